/-
  The reference's Crash.
-/
import Derived.Test.YtjmddbhbibmjdaaRef3
import Derived.Test.YtjmddbhbibmjdaaWSafe
namespace Go.Proofs.Ytjmddbhbibmjdaa
set_option linter.unusedVariables false
set_option linter.unusedSimpArgs false
open Go.RowKit

theorem FPost.grown {w W W' : World} {b gs gf : Nat} {x : FS} (h : FPost w b gs gf x W) (hB : Below W.heap.size W W') : FPost w b gs gf x W' :=
  ⟨h.raw.chg (Chg.of_below hB (fun _ => False)) id id id, h.chg.trans (Chg.of_below hB (fun _ => False)) (fun _ q => q.elim)⟩
theorem FPost.far {w W : World} {b gs gf N : Nat} {x : FS} (h : FPost w b gs gf x W) (hN : w.heap.size ≤ N) (h1 : b ≠ N) (h2 : gs ≠ N) (h3 : gf ≠ N) (k : Nat) (u : Value) : FPost w b gs gf x (W.setCell ⟨N, k, none⟩ u) :=
  ⟨h.raw.chg ((Chg.refl (fun i => i = N) W).setCell (p := ⟨N, k, none⟩) (.inl rfl) u) h1 h2 h3, h.chg.setCell (p := ⟨N, k, none⟩) (.inr hN) u⟩
theorem bytes_below' (W : World) (e : TypeId) (q : ByteArray) : Below W.heap.size W (Lib.bytesWorld W e q) := ⟨rfl, rfl, rfl, by rw [Lib.bytesWorld_size]; omega, fun i hi => Lib.bytesWorld_at_old W e q i hi⟩
theorem Blk.below {w w' : World} {b : Nat} {cs : List Value} {T : TypeId} (h : Blk w b cs T) (hB : Below w.heap.size w w') : Blk w' b cs T := h.chg (Chg.of_below hB (fun _ => False)) id

theorem crash_toF (s : RS) (k0 k1 : Int) (turn : UInt8) : (s.crash k0 k1 turn).toF = { s.toF with dead := false, left := -1, S0 := s.s0 ++ RS.kept s.r0 k0 turn, n0 := (s.s0 ++ RS.kept s.r0 k0 turn).length, S1 := s.s1 ++ RS.kept s.r1 k1 turn, n1 := (s.s1 ++ RS.kept s.r1 k1 turn).length } := by
  simp [RS.toF, RS.crash, RS.t0, RS.t1]
def RCrashAt (w : World) (b gs gf : Nat) (x : FS) (N : Nat) (cs : List Value) (wx : World) : Prop := FPost w b gs gf x wx ∧ Blk wx N cs 32 ∧ b ≠ N ∧ gs ≠ N ∧ gf ≠ N

theorem FPost.alloc {w w' : World} {b gs gf : Nat} {x : FS} (h : FPost w b gs gf x w') (o : Obj) : FPost w b gs gf x (w'.alloc o) := ⟨h.raw.alloc o, h.chg.alloc o⟩

set_option maxHeartbeats 3200000 in
set_option maxRecDepth 100000 in
theorem rcrash_any (b gs gf : Nat) (k0 k1 : Int) (turn : UInt8) (s : RS) (w : World) (hR : FRaw w b gs gf s.toF) (hok : s.Ok) :
    Calls Try.prog 34 #[.pointer (some ⟨b, 0, none⟩), .agg #[.int .i64 k0, .int .i64 k1, .int .u8 turn.toNat]] w fun e w' => e = .returned (.tuple #[]) ∧ FPost w b gs gf (s.crash k0 k1 turn).toF w' := by
  obtain ⟨c0, c1, c2, c3, c4, c5, cs0, cs1, cf0, cf1⟩ := hR.cells
  have f3 := hR.blk.frozen 3
  have f4 := hR.blk.frozen 4
  have l1 := hR.blk.lt
  have l2 := hR.strs.lt
  have l3 := hR.nums.lt
  have HU := hd hR
  have HO := hd hok
  clear hok hR
  go_enter Try.func34, Try.ntmps34
  go_wp2
  have HV := hd (((HU.out.post.setB (x' := { s.toF with dead := false }) 4 (.bool false) rfl rfl rfl).setB (x' := { s.toF with dead := false, left := -1 }) 3 (.int .i64 (-1)) rfl rfl rfl).alloc (.cells #[.int .i64 k0, .int .i64 k1, .int .u8 turn.toNat] 32))
  have HZ := hd (Blk.new ((w.setCell ⟨b, 4, none⟩ (.bool false)).setCell ⟨b, 3, none⟩ (.int .i64 (-1))) [.int .i64 k0, .int .i64 k1, .int .u8 turn.toNat] 32)
  rw [World.size_setCell, World.size_setCell] at HZ
  clear HU c0 c1 c2 c3 c4 c5 cs0 cs1 cf0 cf1 f3 f4
  generalize ((w.setCell ⟨b, 4, none⟩ (.bool false)).setCell ⟨b, 3, none⟩ (.int .i64 (-1))).alloc (.cells #[.int .i64 k0, .int .i64 k1, .int .u8 turn.toNat] 32) = W at *
  refine wp_loop_rounds 3 ?_
  rw [rounds_succ]
  go_upto_block 1 with (fail)
  go_cut [] (fun wx => RCrashAt w b gs gf { s.toF with dead := false, left := -1, S0 := s.s0 ++ RS.kept s.r0 k0 turn, n0 := (s.s0 ++ RS.kept s.r0 k0 turn).length } w.heap.size [.int .i64 k0, .int .i64 k1, .int .u8 turn.toNat] wx)
  case first =>
    obtain ⟨c0, c1, c2, c3, c4, c5, cs0, cs1, cf0, cf1⟩ := HV.out.raw.cells
    have ck : W.cell? ⟨w.heap.size, 0, none⟩ = some (.int .i64 k0) := HZ.out.cell 0
    have ct : W.cell? ⟨w.heap.size, 2, none⟩ = some (.int .u8 turn.toNat) := HZ.out.cell 2
    have hsm := HO.out.small
    have m1 := keep_le s.r0 k0
    have g1 := keep_if s.r0 k0
    have HK := hd (RS.kept_eq s.r0 k0 turn)
    simp only [RS.toF] at c2 c3 c4 c5 cs0 cs1 cf0 cf1
    have e1 : IntKind.i64.wrap (((str s.t0).size : Int) - (s.s0.length : Int)) = (s.r0.length : Int) := by
      rw [IntWalk.i64_in _ (by rw [str_size]; simp only [RS.t0, RS.t1, List.length_append]; omega), str_size]
      simp only [RS.t0, RS.t1, List.length_append]
      omega
    generalize RS.keepn s.r0 k0 = m at *
    have e2 : IntKind.i64.wrap ((s.s0.length : Int) + (m : Int)) = (s.s0.length : Int) + (m : Int) := IntWalk.i64_in _ (by omega)
    go_wp2
    go_quiet (fail)
    generalize (if (s.r0.length : Int) < k0 then (s.r0.length : Int) else k0) = zz at *
    obtain ⟨S, hS⟩ : ∃ S, (str s.t0).extract 0 (s.s0.length + m) = S := ⟨_, rfl⟩
    have hSl : S.data.toList = s.s0 ++ s.r0.take m := by
      rw [← hS, str_cut]
      show (s.s0 ++ s.r0).take (s.s0.length + m) = _
      rw [List.take_append, List.take_of_length_le (by omega), Nat.add_sub_cancel_left]
    have hSs : S.size = s.s0.length + m := by
      have : S.size = S.data.toList.length := by simp
      rw [this, hSl, List.length_append, List.length_take]
      omega
    have HSl := hd hSl
    have HSs := hd hSs
    have kc := fun W : World => Lib.run_convert_string_bytes (P := Try.prog) W 9 34 5 S Try.underlying9 Try.underlying34 Try.underlying5
    have hz : (str s.t0).size = s.s0.length + s.r0.length := by rw [str_size]; simp only [RS.t0, RS.t1, List.length_append]
    have hm2 : s.s0.length + m ≤ (str s.t0).size := by omega
    clear hSl hSs hz e1 e2
    go_upto_region 8 with (fail)
    have hWW : (W.drewN nq).heap.size = W.heap.size := rfl
    obtain ⟨o, hoN, hoT⟩ := Tells.new (W.drewN nq) 5 S _ HSl.out
    have HF := hd ((HV.out.drewN nq).grown (bytes_below' (W.drewN nq) 5 S))
    have HZ2 := hd (Blk.below (w := W.drewN nq) HZ.out (bytes_below' (W.drewN nq) 5 S))
    have q1 := HV.out.raw.blk.lt
    have q2 := HV.out.raw.strs.lt
    have q3 := HV.out.raw.nums.lt
    have q4 := HZ.out.lt
    rw [hWW] at hoN
    have HFz := hd (fun j hj => bytes_frozen (W.drewN nq) 5 S j hj)
    have HCl := hd (fun j hj => Lib.bytesWorld_cell (W.drewN nq) 5 S j hj)
    rw [hWW] at HFz HCl
    clear hWW HV HZ c0 c1 c2 c3 c4 c5 cs0 cs1 cf0 cf1 ck ct kc hS
    generalize Lib.bytesWorld (W.drewN nq) 5 S = W2 at *
    obtain ⟨c0, c1, c2, c3, c4, c5, cs0, cs1, cf0, cf1⟩ := HF.out.raw.cells
    simp only [RS.toF] at c2 c3 c4 c5 cs0 cs1 cf0 cf1
    have HoN := hd hoN
    have HoT := hd hoT
    clear hoN hoT
    by_cases hm : m = 0
    · have hm0 : (m : Int) ≤ 0 := by omega
      have hk0 : RS.kept s.r0 k0 turn = [] := by rw [HK.out, hm]; simp
      have HLen : Hd (S.size = (s.s0 ++ RS.kept s.r0 k0 turn).length) := hd (by rw [HSs.out, hk0, hm]; simp)
      have HLen2 : Hd (((s.s0.length : Int) + (m : Int)) = ((s.s0 ++ RS.kept s.r0 k0 turn).length : Int)) := hd (by rw [hk0, hm]; simp)
      have ht4 := HoT.out
      rw [hm, List.take_zero, ← hk0] at ht4
      have HT4 := hd ht4
      have HF4 := HF
      have HZ4 := HZ2
      have HO4 := HoN
      have HMz := hd hm
      clear ht4 hm hk0 HK HFz HCl
      obtain ⟨W4, rfl⟩ : ∃ W4, W4 = W2 := ⟨_, rfl⟩
      have k0' : W4.cell? ⟨b, 0, none⟩ = some (.slice (some ⟨gs, 0, none⟩) 2 2) := HF4.out.raw.cells.1
      have k1' : W4.cell? ⟨b, 1, none⟩ = some (.slice (some ⟨gf, 0, none⟩) 2 2) := HF4.out.raw.cells.2.1
      have k2' := HF4.out.raw.strs.frozen 0
      have k3' := HF4.out.raw.nums.frozen 0
      have k4' := HF4.out.raw.strs.cell 0
      have k5' := HF4.out.raw.nums.cell 0
      have d1 := HF4.out.raw.d1
      have d2 := HF4.out.raw.d2
      have d3 := HF4.out.raw.d3
      simp only [FStr, FNum, List.getElem?_cons_zero, List.getElem?_cons_succ] at k4' k5'
      have kk : ∀ cap, (convert 34 9 (.slice (some ⟨W.heap.size, 0, none⟩) S.size cap)).run Try.prog W4.drew = .ok (.string (str (s.s0 ++ RS.kept s.r0 k0 turn))) W4.drew := fun cap => HT4.out.string (w := W4.drew) HO4.out _ _ HLen.out
      go_upto_region 10 with (fail)
      go_region
      all_goals
        have HX := hd ((HF4.out.drew.setS (x' := { ({ s.toF with dead := false, left := -1 } : FS) with S0 := s.s0 ++ RS.kept s.r0 k0 turn }) 0 (.string (str (s.s0 ++ RS.kept s.r0 k0 turn))) rfl rfl rfl).setF (x' := { s.toF with dead := false, left := -1, S0 := s.s0 ++ RS.kept s.r0 k0 turn, n0 := (s.s0 ++ RS.kept s.r0 k0 turn).length }) 0 (.int .i64 ((s.s0.length : Int) + (m : Int))) (by rw [HLen2.out]; rfl) rfl rfl)
        have HY := hd ((HZ4.out.drew.other (p := ⟨gs, 0, none⟩) (by intro q; have q : w.heap.size = gs := q; omega) (.string (str (s.s0 ++ RS.kept s.r0 k0 turn)))).other (p := ⟨gf, 0, none⟩) (by intro q; have q : w.heap.size = gf := q; omega) (.int .i64 ((s.s0.length : Int) + (m : Int))))
        try rw [setCell_swap _ ⟨gf, 0, none⟩ ⟨gs, 0, none⟩ _ _ (.inl (fun q => d3 q.symm))]
        clear k0' k1' k2' k3' k4' k5' kk
        go_wp2
        all_goals
          go_meet
          exact ⟨HX.out, HY.out, by omega, by omega, by omega⟩
    · have hm' : 0 < (m : Int) := by omega
      have hlen : (s.r0.take m).length = m := by simp; omega
      have hkk : RS.kept s.r0 k0 turn = (s.r0.take m).set (m - 1) ((s.r0.take m).getD (m - 1) 0 ^^^ turn) := by rw [HK.out, hlen, if_neg hm]
      have hidx : s.s0.length + m - 1 = s.s0.length + (m - 1) := by omega
      have hget : S.data.toList.getD (s.s0.length + m - 1) 0 = (s.r0.take m).getD (m - 1) 0 := by
        rw [HSl.out, hidx]
        simp only [List.getD]
        rw [List.getElem?_append_right (by omega), Nat.add_sub_cancel_left]
      have hset : (s.s0 ++ s.r0.take m).set (s.s0.length + m - 1) ((s.r0.take m).getD (m - 1) 0 ^^^ turn) = s.s0 ++ RS.kept s.r0 k0 turn := by
        rw [hkk, hidx, List.set_append_right _ _ (by omega), Nat.add_sub_cancel_left]
      have HLen : Hd (S.size = (s.s0 ++ RS.kept s.r0 k0 turn).length) := hd (by rw [HSs.out, List.length_append, hkk, List.length_set, hlen])
      have HLen2 : Hd (((s.s0.length : Int) + (m : Int)) = ((s.s0 ++ RS.kept s.r0 k0 turn).length : Int)) := hd (by rw [List.length_append, hkk, List.length_set, hlen]; omega)
      have cl := HCl.out (s.s0.length + m - 1) (by rw [HSs.out]; omega)
      rw [hget] at cl
      have fl := HFz.out (s.s0.length + m - 1) (by rw [HSs.out]; omega)
      have ct : W2.cell? ⟨w.heap.size, 2, none⟩ = some (.int .u8 turn.toNat) := HZ2.out.cell 2
      obtain ⟨o2, ho2, hT2⟩ := HoT.out.set HoN.out (s.s0.length + m - 1) ((s.r0.take m).getD (m - 1) 0 ^^^ turn)
      rw [hset] at hT2
      have HT4 := hd hT2
      have HSz := hd HSs.out
      clear hlen hkk hidx hget hset hT2 HCl HFz HSl HK hm
      generalize (s.r0.take m).getD (m - 1) 0 = x at *
      have HF4 := hd ((HF.out.far (N := W.heap.size) (by omega) (by omega) (by omega) (by omega) (s.s0.length + m - 1) (.int .u8 ((x ^^^ turn).toNat : Int))).drew)
      have HZ4 := hd ((HZ2.out.other (p := ⟨W.heap.size, s.s0.length + m - 1, none⟩) (by intro q; have q : w.heap.size = W.heap.size := q; omega) (.int .u8 ((x ^^^ turn).toNat : Int))).drew)
      have HO4 := hd ho2
      clear ho2
      have hS1 : (s.s0.length : Int) + (m : Int) ≤ (S.size : Int) := by rw [HSz.out]; push_cast; omega
      have hS2 : (S.size : Int) = (s.s0.length : Int) + (m : Int) := by rw [HSz.out]; push_cast; rfl
      have hnm : ((s.s0.length : Int) + (m : Int) - 1).toNat = s.s0.length + m - 1 := by omega
      have hb1 : IntKind.i64.wrap ((s.s0.length : Int) + (m : Int) - 1) = (s.s0.length : Int) + (m : Int) - 1 := IntWalk.i64_in _ (by omega)
      have hb2 : 0 ≤ (s.s0.length : Int) + (m : Int) - 1 := by omega
      have hb3 : (s.s0.length : Int) + (m : Int) - 1 < (S.size : Int) := by omega
      go_upto_region 9 with (fail)
      go_region
      clear hS1 hS2 hnm hb1 hb2 hb3
      rw [xor_byte]
      obtain ⟨W4, hW4⟩ : ∃ W4, (W2.setCell ⟨W.heap.size, s.s0.length + m - 1, none⟩ (.int .u8 ((x ^^^ turn).toNat : Int))).drew = W4 := ⟨_, rfl⟩
      have HO5 : Hd (W4.heap[W.heap.size]? = some o2) := hd (by rw [← hW4]; exact HO4.out)
      rw [hW4] at HF4 HZ4 ⊢
      clear hW4 HO4 cl fl ct c0 c1 c2 c3 c4 c5 cs0 cs1 cf0 cf1 HF HZ2 HoN HoT
      have HO4 := HO5
      have k0' : W4.cell? ⟨b, 0, none⟩ = some (.slice (some ⟨gs, 0, none⟩) 2 2) := HF4.out.raw.cells.1
      have k1' : W4.cell? ⟨b, 1, none⟩ = some (.slice (some ⟨gf, 0, none⟩) 2 2) := HF4.out.raw.cells.2.1
      have k2' := HF4.out.raw.strs.frozen 0
      have k3' := HF4.out.raw.nums.frozen 0
      have k4' := HF4.out.raw.strs.cell 0
      have k5' := HF4.out.raw.nums.cell 0
      have d1 := HF4.out.raw.d1
      have d2 := HF4.out.raw.d2
      have d3 := HF4.out.raw.d3
      simp only [FStr, FNum, List.getElem?_cons_zero, List.getElem?_cons_succ] at k4' k5'
      have kk : ∀ cap, (convert 34 9 (.slice (some ⟨W.heap.size, 0, none⟩) S.size cap)).run Try.prog W4.drew = .ok (.string (str (s.s0 ++ RS.kept s.r0 k0 turn))) W4.drew := fun cap => HT4.out.string (w := W4.drew) HO4.out _ _ HLen.out
      go_upto_region 10 with (fail)
      go_region
      all_goals
        have HX := hd ((HF4.out.drew.setS (x' := { ({ s.toF with dead := false, left := -1 } : FS) with S0 := s.s0 ++ RS.kept s.r0 k0 turn }) 0 (.string (str (s.s0 ++ RS.kept s.r0 k0 turn))) rfl rfl rfl).setF (x' := { s.toF with dead := false, left := -1, S0 := s.s0 ++ RS.kept s.r0 k0 turn, n0 := (s.s0 ++ RS.kept s.r0 k0 turn).length }) 0 (.int .i64 ((s.s0.length : Int) + (m : Int))) (by rw [HLen2.out]; rfl) rfl rfl)
        have HY := hd ((HZ4.out.drew.other (p := ⟨gs, 0, none⟩) (by intro q; have q : w.heap.size = gs := q; omega) (.string (str (s.s0 ++ RS.kept s.r0 k0 turn)))).other (p := ⟨gf, 0, none⟩) (by intro q; have q : w.heap.size = gf := q; omega) (.int .i64 ((s.s0.length : Int) + (m : Int))))
        try rw [setCell_swap _ ⟨gf, 0, none⟩ ⟨gs, 0, none⟩ _ _ (.inl (fun q => d3 q.symm))]
        clear k0' k1' k2' k3' k4' k5' kk
        go_wp2
        all_goals
          go_meet
          exact ⟨HX.out, HY.out, by omega, by omega, by omega⟩
  clear HV HZ
  clear W
  obtain ⟨V, Z, hne1, hne2, hne3⟩ := hcut
  have HV := hd V
  have HZ := hd Z
  clear V Z hne1 hne2 hne3
  obtain ⟨W, rfl⟩ : ∃ W, W = wc := ⟨_, rfl⟩
  go_wp2_with (fail)
  rw [rounds_succ]
  go_upto_block 1 with (fail)
  go_cut [] (fun wx => RCrashAt w b gs gf { s.toF with dead := false, left := -1, S0 := s.s0 ++ RS.kept s.r0 k0 turn, n0 := (s.s0 ++ RS.kept s.r0 k0 turn).length, S1 := s.s1 ++ RS.kept s.r1 k1 turn, n1 := (s.s1 ++ RS.kept s.r1 k1 turn).length } w.heap.size [.int .i64 k0, .int .i64 k1, .int .u8 turn.toNat] wx)
  case first =>
    obtain ⟨c0, c1, c2, c3, c4, c5, cs0, cs1, cf0, cf1⟩ := HV.out.raw.cells
    have ck : W.cell? ⟨w.heap.size, 1, none⟩ = some (.int .i64 k1) := HZ.out.cell 1
    have ct : W.cell? ⟨w.heap.size, 2, none⟩ = some (.int .u8 turn.toNat) := HZ.out.cell 2
    have hsm := HO.out.small
    have m1 := keep_le s.r1 k1
    have g1 := keep_if s.r1 k1
    have HK := hd (RS.kept_eq s.r1 k1 turn)
    simp only [RS.toF] at c2 c3 c4 c5 cs0 cs1 cf0 cf1
    have e1 : IntKind.i64.wrap (((str s.t1).size : Int) - (s.s1.length : Int)) = (s.r1.length : Int) := by
      rw [IntWalk.i64_in _ (by rw [str_size]; simp only [RS.t0, RS.t1, List.length_append]; omega), str_size]
      simp only [RS.t0, RS.t1, List.length_append]
      omega
    generalize RS.keepn s.r1 k1 = m at *
    have e2 : IntKind.i64.wrap ((s.s1.length : Int) + (m : Int)) = (s.s1.length : Int) + (m : Int) := IntWalk.i64_in _ (by omega)
    go_wp2
    go_quiet (fail)
    generalize (if (s.r1.length : Int) < k1 then (s.r1.length : Int) else k1) = zz at *
    obtain ⟨S, hS⟩ : ∃ S, (str s.t1).extract 0 (s.s1.length + m) = S := ⟨_, rfl⟩
    have hSl : S.data.toList = s.s1 ++ s.r1.take m := by
      rw [← hS, str_cut]
      show (s.s1 ++ s.r1).take (s.s1.length + m) = _
      rw [List.take_append, List.take_of_length_le (by omega), Nat.add_sub_cancel_left]
    have hSs : S.size = s.s1.length + m := by
      have : S.size = S.data.toList.length := by simp
      rw [this, hSl, List.length_append, List.length_take]
      omega
    have HSl := hd hSl
    have HSs := hd hSs
    have kc := fun W : World => Lib.run_convert_string_bytes (P := Try.prog) W 9 34 5 S Try.underlying9 Try.underlying34 Try.underlying5
    have hz : (str s.t1).size = s.s1.length + s.r1.length := by rw [str_size]; simp only [RS.t0, RS.t1, List.length_append]
    have hm2 : s.s1.length + m ≤ (str s.t1).size := by omega
    clear hSl hSs hz e1 e2
    go_upto_region 8 with (fail)
    have hWW : (W.drewN nq).heap.size = W.heap.size := rfl
    obtain ⟨o, hoN, hoT⟩ := Tells.new (W.drewN nq) 5 S _ HSl.out
    have HF := hd ((HV.out.drewN nq).grown (bytes_below' (W.drewN nq) 5 S))
    have HZ2 := hd (Blk.below (w := W.drewN nq) HZ.out (bytes_below' (W.drewN nq) 5 S))
    have q1 := HV.out.raw.blk.lt
    have q2 := HV.out.raw.strs.lt
    have q3 := HV.out.raw.nums.lt
    have q4 := HZ.out.lt
    rw [hWW] at hoN
    have HFz := hd (fun j hj => bytes_frozen (W.drewN nq) 5 S j hj)
    have HCl := hd (fun j hj => Lib.bytesWorld_cell (W.drewN nq) 5 S j hj)
    rw [hWW] at HFz HCl
    clear hWW HV HZ c0 c1 c2 c3 c4 c5 cs0 cs1 cf0 cf1 ck ct kc hS
    generalize Lib.bytesWorld (W.drewN nq) 5 S = W2 at *
    obtain ⟨c0, c1, c2, c3, c4, c5, cs0, cs1, cf0, cf1⟩ := HF.out.raw.cells
    simp only [RS.toF] at c2 c3 c4 c5 cs0 cs1 cf0 cf1
    have HoN := hd hoN
    have HoT := hd hoT
    clear hoN hoT
    by_cases hm : m = 0
    · have hm0 : (m : Int) ≤ 0 := by omega
      have hk0 : RS.kept s.r1 k1 turn = [] := by rw [HK.out, hm]; simp
      have HLen : Hd (S.size = (s.s1 ++ RS.kept s.r1 k1 turn).length) := hd (by rw [HSs.out, hk0, hm]; simp)
      have HLen2 : Hd (((s.s1.length : Int) + (m : Int)) = ((s.s1 ++ RS.kept s.r1 k1 turn).length : Int)) := hd (by rw [hk0, hm]; simp)
      have ht4 := HoT.out
      rw [hm, List.take_zero, ← hk0] at ht4
      have HT4 := hd ht4
      have HF4 := HF
      have HZ4 := HZ2
      have HO4 := HoN
      have HMz := hd hm
      clear ht4 hm hk0 HK HFz HCl
      obtain ⟨W4, rfl⟩ : ∃ W4, W4 = W2 := ⟨_, rfl⟩
      have k0' : W4.cell? ⟨b, 0, none⟩ = some (.slice (some ⟨gs, 0, none⟩) 2 2) := HF4.out.raw.cells.1
      have k1' : W4.cell? ⟨b, 1, none⟩ = some (.slice (some ⟨gf, 0, none⟩) 2 2) := HF4.out.raw.cells.2.1
      have k2' := HF4.out.raw.strs.frozen 1
      have k3' := HF4.out.raw.nums.frozen 1
      have k4' := HF4.out.raw.strs.cell 1
      have k5' := HF4.out.raw.nums.cell 1
      have d1 := HF4.out.raw.d1
      have d2 := HF4.out.raw.d2
      have d3 := HF4.out.raw.d3
      simp only [FStr, FNum, List.getElem?_cons_zero, List.getElem?_cons_succ] at k4' k5'
      have kk : ∀ cap, (convert 34 9 (.slice (some ⟨W.heap.size, 0, none⟩) S.size cap)).run Try.prog W4.drew = .ok (.string (str (s.s1 ++ RS.kept s.r1 k1 turn))) W4.drew := fun cap => HT4.out.string (w := W4.drew) HO4.out _ _ HLen.out
      go_upto_region 10 with (fail)
      go_region
      all_goals
        have HX := hd ((HF4.out.drew.setS (x' := { ({ s.toF with dead := false, left := -1, S0 := s.s0 ++ RS.kept s.r0 k0 turn, n0 := (s.s0 ++ RS.kept s.r0 k0 turn).length } : FS) with S1 := s.s1 ++ RS.kept s.r1 k1 turn }) 1 (.string (str (s.s1 ++ RS.kept s.r1 k1 turn))) rfl rfl rfl).setF (x' := { s.toF with dead := false, left := -1, S0 := s.s0 ++ RS.kept s.r0 k0 turn, n0 := (s.s0 ++ RS.kept s.r0 k0 turn).length, S1 := s.s1 ++ RS.kept s.r1 k1 turn, n1 := (s.s1 ++ RS.kept s.r1 k1 turn).length }) 1 (.int .i64 ((s.s1.length : Int) + (m : Int))) (by rw [HLen2.out]; rfl) rfl rfl)
        have HY := hd ((HZ4.out.drew.other (p := ⟨gs, 1, none⟩) (by intro q; have q : w.heap.size = gs := q; omega) (.string (str (s.s1 ++ RS.kept s.r1 k1 turn)))).other (p := ⟨gf, 1, none⟩) (by intro q; have q : w.heap.size = gf := q; omega) (.int .i64 ((s.s1.length : Int) + (m : Int))))
        try rw [setCell_swap _ ⟨gf, 1, none⟩ ⟨gs, 1, none⟩ _ _ (.inl (fun q => d3 q.symm))]
        clear k0' k1' k2' k3' k4' k5' kk
        go_wp2
        all_goals
          go_meet
          exact ⟨HX.out, HY.out, by omega, by omega, by omega⟩
    · have hm' : 0 < (m : Int) := by omega
      have hlen : (s.r1.take m).length = m := by simp; omega
      have hkk : RS.kept s.r1 k1 turn = (s.r1.take m).set (m - 1) ((s.r1.take m).getD (m - 1) 0 ^^^ turn) := by rw [HK.out, hlen, if_neg hm]
      have hidx : s.s1.length + m - 1 = s.s1.length + (m - 1) := by omega
      have hget : S.data.toList.getD (s.s1.length + m - 1) 0 = (s.r1.take m).getD (m - 1) 0 := by
        rw [HSl.out, hidx]
        simp only [List.getD]
        rw [List.getElem?_append_right (by omega), Nat.add_sub_cancel_left]
      have hset : (s.s1 ++ s.r1.take m).set (s.s1.length + m - 1) ((s.r1.take m).getD (m - 1) 0 ^^^ turn) = s.s1 ++ RS.kept s.r1 k1 turn := by
        rw [hkk, hidx, List.set_append_right _ _ (by omega), Nat.add_sub_cancel_left]
      have HLen : Hd (S.size = (s.s1 ++ RS.kept s.r1 k1 turn).length) := hd (by rw [HSs.out, List.length_append, hkk, List.length_set, hlen])
      have HLen2 : Hd (((s.s1.length : Int) + (m : Int)) = ((s.s1 ++ RS.kept s.r1 k1 turn).length : Int)) := hd (by rw [List.length_append, hkk, List.length_set, hlen]; omega)
      have cl := HCl.out (s.s1.length + m - 1) (by rw [HSs.out]; omega)
      rw [hget] at cl
      have fl := HFz.out (s.s1.length + m - 1) (by rw [HSs.out]; omega)
      have ct : W2.cell? ⟨w.heap.size, 2, none⟩ = some (.int .u8 turn.toNat) := HZ2.out.cell 2
      obtain ⟨o2, ho2, hT2⟩ := HoT.out.set HoN.out (s.s1.length + m - 1) ((s.r1.take m).getD (m - 1) 0 ^^^ turn)
      rw [hset] at hT2
      have HT4 := hd hT2
      have HSz := hd HSs.out
      clear hlen hkk hidx hget hset hT2 HCl HFz HSl HK hm
      generalize (s.r1.take m).getD (m - 1) 0 = x at *
      have HF4 := hd ((HF.out.far (N := W.heap.size) (by omega) (by omega) (by omega) (by omega) (s.s1.length + m - 1) (.int .u8 ((x ^^^ turn).toNat : Int))).drew)
      have HZ4 := hd ((HZ2.out.other (p := ⟨W.heap.size, s.s1.length + m - 1, none⟩) (by intro q; have q : w.heap.size = W.heap.size := q; omega) (.int .u8 ((x ^^^ turn).toNat : Int))).drew)
      have HO4 := hd ho2
      clear ho2
      have hS1 : (s.s1.length : Int) + (m : Int) ≤ (S.size : Int) := by rw [HSz.out]; push_cast; omega
      have hS2 : (S.size : Int) = (s.s1.length : Int) + (m : Int) := by rw [HSz.out]; push_cast; rfl
      have hnm : ((s.s1.length : Int) + (m : Int) - 1).toNat = s.s1.length + m - 1 := by omega
      have hb1 : IntKind.i64.wrap ((s.s1.length : Int) + (m : Int) - 1) = (s.s1.length : Int) + (m : Int) - 1 := IntWalk.i64_in _ (by omega)
      have hb2 : 0 ≤ (s.s1.length : Int) + (m : Int) - 1 := by omega
      have hb3 : (s.s1.length : Int) + (m : Int) - 1 < (S.size : Int) := by omega
      go_upto_region 9 with (fail)
      go_region
      clear hS1 hS2 hnm hb1 hb2 hb3
      rw [xor_byte]
      obtain ⟨W4, hW4⟩ : ∃ W4, (W2.setCell ⟨W.heap.size, s.s1.length + m - 1, none⟩ (.int .u8 ((x ^^^ turn).toNat : Int))).drew = W4 := ⟨_, rfl⟩
      have HO5 : Hd (W4.heap[W.heap.size]? = some o2) := hd (by rw [← hW4]; exact HO4.out)
      rw [hW4] at HF4 HZ4 ⊢
      clear hW4 HO4 cl fl ct c0 c1 c2 c3 c4 c5 cs0 cs1 cf0 cf1 HF HZ2 HoN HoT
      have HO4 := HO5
      have k0' : W4.cell? ⟨b, 0, none⟩ = some (.slice (some ⟨gs, 0, none⟩) 2 2) := HF4.out.raw.cells.1
      have k1' : W4.cell? ⟨b, 1, none⟩ = some (.slice (some ⟨gf, 0, none⟩) 2 2) := HF4.out.raw.cells.2.1
      have k2' := HF4.out.raw.strs.frozen 1
      have k3' := HF4.out.raw.nums.frozen 1
      have k4' := HF4.out.raw.strs.cell 1
      have k5' := HF4.out.raw.nums.cell 1
      have d1 := HF4.out.raw.d1
      have d2 := HF4.out.raw.d2
      have d3 := HF4.out.raw.d3
      simp only [FStr, FNum, List.getElem?_cons_zero, List.getElem?_cons_succ] at k4' k5'
      have kk : ∀ cap, (convert 34 9 (.slice (some ⟨W.heap.size, 0, none⟩) S.size cap)).run Try.prog W4.drew = .ok (.string (str (s.s1 ++ RS.kept s.r1 k1 turn))) W4.drew := fun cap => HT4.out.string (w := W4.drew) HO4.out _ _ HLen.out
      go_upto_region 10 with (fail)
      go_region
      all_goals
        have HX := hd ((HF4.out.drew.setS (x' := { ({ s.toF with dead := false, left := -1, S0 := s.s0 ++ RS.kept s.r0 k0 turn, n0 := (s.s0 ++ RS.kept s.r0 k0 turn).length } : FS) with S1 := s.s1 ++ RS.kept s.r1 k1 turn }) 1 (.string (str (s.s1 ++ RS.kept s.r1 k1 turn))) rfl rfl rfl).setF (x' := { s.toF with dead := false, left := -1, S0 := s.s0 ++ RS.kept s.r0 k0 turn, n0 := (s.s0 ++ RS.kept s.r0 k0 turn).length, S1 := s.s1 ++ RS.kept s.r1 k1 turn, n1 := (s.s1 ++ RS.kept s.r1 k1 turn).length }) 1 (.int .i64 ((s.s1.length : Int) + (m : Int))) (by rw [HLen2.out]; rfl) rfl rfl)
        have HY := hd ((HZ4.out.drew.other (p := ⟨gs, 1, none⟩) (by intro q; have q : w.heap.size = gs := q; omega) (.string (str (s.s1 ++ RS.kept s.r1 k1 turn)))).other (p := ⟨gf, 1, none⟩) (by intro q; have q : w.heap.size = gf := q; omega) (.int .i64 ((s.s1.length : Int) + (m : Int))))
        try rw [setCell_swap _ ⟨gf, 1, none⟩ ⟨gs, 1, none⟩ _ _ (.inl (fun q => d3 q.symm))]
        clear k0' k1' k2' k3' k4' k5' kk
        go_wp2
        all_goals
          go_meet
          exact ⟨HX.out, HY.out, by omega, by omega, by omega⟩
  clear HV HZ
  clear W
  obtain ⟨V, Z, hne1, hne2, hne3⟩ := hcut
  have HV := hd V
  have HZ := hd Z
  clear V Z hne1 hne2 hne3
  obtain ⟨W, rfl⟩ : ∃ W, W = wc := ⟨_, rfl⟩
  go_wp2_with (fail)
  rw [rounds_succ]
  go_wp2
  go_end0
  refine ⟨rfl, ?_⟩
  rw [crash_toF]
  exact HV.out
end Go.Proofs.Ytjmddbhbibmjdaa
