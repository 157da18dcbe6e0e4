/-
  The walk of ReelSafe.
-/
import Derived.Test.YtjmddbhbibmjdaaWArmed
import Derived.Lib.ConvBytes
namespace Go.Proofs.Ytjmddbhbibmjdaa
set_option linter.unusedVariables false
set_option linter.unusedSimpArgs false
open Go.RowKit

theorem keep_size (b : ByteArray) (k : Int) : (if 0 < (if (b.size : Int) < k then (b.size : Int) else k) then (if (b.size : Int) < k then (b.size : Int) else k) else 0) = (RS.keepn b.data.toList k : Int) := by
  have := keep_if b.data.toList k
  simpa using this

theorem Mine.grown {w0 w w' : World} {b : Nat} {s : RS} (h : Mine w0 w b s) (hB : Below w.heap.size w w') : Mine w0 w' b s := by
  obtain ⟨hb, fp, hR, hf⟩ := h
  exact ⟨hb.trans (hB.mono hb.size), fp, hR.chg (Chg.of_below hB (fun _ => False)) (fun _ _ q => q), hf⟩
/-- The same, beside a block N that is another one's. -/
structure Beside (w0 w : World) (b : Nat) (s : RS) (N : Nat) (o : Obj) : Prop where
  below : Below w0.heap.size w0 w
  at_ : ∃ fp, ReelAt w b s fp ∧ ∀ k ∈ fp, w0.heap.size ≤ k ∧ k ≠ N
  obj : w.heap[N]? = some o
theorem Beside.drewN {w0 w : World} {b N : Nat} {s : RS} {o : Obj} (h : Beside w0 w b s N o) (n : Nat) : Beside w0 (w.drewN n) b s N o := by
  obtain ⟨hb, ⟨fp, ⟨ho, v0, v1, v2, v3, hp, hfp⟩, hf⟩, hN⟩ := h
  exact ⟨⟨hb.os, hb.tape, hb.output, hb.size, hb.block⟩, ⟨fp, ⟨ho, v0, v1, v2, v3, hp.drewN n, hfp⟩, hf⟩, hN⟩
theorem Beside.read {w0 w : World} {b N : Nat} {s : RS} {o : Obj} (h : Beside w0 w b s N o) (t : Int) (l : List UInt8) (e : Int) (he : s.read t = (l, e)) :
    Calls Try.prog 15 #[.pointer (some ⟨b, 0, none⟩), .int .i64 t] w fun r w' => r = .returned (.tuple #[.string (str l), .int .i64 e]) ∧ Beside w0 w' b s N o := by
  obtain ⟨hb, ⟨fp, hR, hf⟩, hN⟩ := h
  refine (read_any b t s fp w hR).mono ?_
  rintro r w' ⟨rfl, n, rfl⟩
  rw [he]
  exact ⟨rfl, Beside.drewN ⟨hb, ⟨fp, hR, hf⟩, hN⟩ n⟩
theorem Beside.crash {w0 w : World} {b N : Nat} {s : RS} {o : Obj} (h : Beside w0 w b s N o) (k0 k1 : Int) (turn : UInt8) (v : Value) (hv : v = .agg #[.int .i64 k0, .int .i64 k1, .int .u8 turn.toNat]) (s' : RS) (he : s.crash k0 k1 turn = s') :
    Calls Try.prog 14 #[.pointer (some ⟨b, 0, none⟩), v] w fun r w' => r = .returned (.tuple #[]) ∧ Beside w0 w' b s' N o := by
  obtain ⟨hb, ⟨fp, hR, hf⟩, hN⟩ := h
  subst hv
  subst he
  refine (crash_any b k0 k1 turn s fp w hR).mono ?_
  rintro r w' ⟨rfl, fp', hR', hC, hF⟩
  have hs := hb.size
  have hNl : N < w.heap.size := (Array.getElem?_eq_some_iff.1 hN).1
  refine ⟨rfl, hb.trans (hC.below hs (fun i hi => (hf i hi).1)), ⟨fp', hR', fun k hk => ?_⟩, (hC.block N hNl (fun q => (hf N q).2 rfl)).trans hN⟩
  rcases hF k hk with q | q
  · exact hf k q
  · exact ⟨by omega, by omega⟩

theorem bytes_frozen (w : World) (e : TypeId) (s : ByteArray) (j : Nat) (hj : j < s.size) : (Lib.bytesWorld w e s).frozen? ⟨w.heap.size, j, none⟩ = false := by
  have hs : (Lib.bytesCells w e s).size = s.size + (grownCap w s.size 0 e - s.size) := by
    unfold Lib.bytesCells
    rw [Array.size_append, Array.size_map, Array.size_replicate]
    rfl
  unfold World.frozen?
  rw [show (⟨w.heap.size, j, none⟩ : Addr).block = w.heap.size from rfl, Lib.bytesWorld_at_new]
  show (decide ((Lib.bytesCells w e s).size ≤ j) && decide (j < (Lib.bytesCells w e s).size + 1)) = false
  rw [hs]
  simp
  omega
/-- A row of cells that reads as the bytes l. -/
def Tells (o : Obj) (l : List UInt8) : Prop := ∃ cs e fr, o = .cells cs e fr ∧ ∀ j (hj : j < l.length), cs[j]? = some (.int .u8 (l[j].toNat : Int))
theorem Tells.string {w : World} {N : Nat} {o : Obj} {l : List UInt8} (h : Tells o l) (hN : w.heap[N]? = some o) (n cap : Nat) (hn : n = l.length) :
    (convert 34 9 (.slice (some ⟨N, 0, none⟩) n cap)).run Try.prog w = .ok (.string (str l)) w := by
  obtain ⟨cs, e, fr, rfl, hc⟩ := h
  subst hn
  refine run_convert_bytes_back w _ _ _ ⟨N, 0, none⟩ cap l Try.underlying34 Try.underlying5 Try.underlying9 (fun j hj => ?_)
  rw [show (⟨N, 0, none⟩ : Addr).add j = ⟨N, j, none⟩ from by unfold Addr.add; split <;> simp_all]
  unfold World.cell?
  rw [show (⟨N, j, none⟩ : Addr).block = N from rfl, hN]
  exact hc j hj
theorem Tells.new (w : World) (e : TypeId) (s : ByteArray) (l : List UInt8) (hl : s.data.toList = l) : ∃ o, (Lib.bytesWorld w e s).heap[w.heap.size]? = some o ∧ Tells o l := by
  refine ⟨_, Lib.bytesWorld_at_new w e s, _, _, _, rfl, fun j hj => ?_⟩
  subst hl
  have hj' : j < s.data.size := by simpa using hj
  have hj2 : j < s.size := hj'
  simp [Lib.bytesCells, Array.getElem?_append, hj2, Array.getElem?_eq_getElem hj']
theorem Tells.set {w : World} {N : Nat} {o : Obj} {l : List UInt8} (h : Tells o l) (hN : w.heap[N]? = some o) (k : Nat) (x : UInt8) : ∃ o', (w.setCell ⟨N, k, none⟩ (.int .u8 (x.toNat : Int))).heap[N]? = some o' ∧ Tells o' (l.set k x) := by
  obtain ⟨cs, e, fr, rfl, hc⟩ := h
  refine ⟨.cells (cs.setIfInBounds k (.int .u8 (x.toNat : Int))) e fr, ?_, _, _, _, rfl, fun j hj => ?_⟩
  · simp only [World.setCell, Array.getElem?_modify, hN]
    simp
  · have hj' : j < l.length := by simpa using hj
    rw [Array.getElem?_setIfInBounds, List.getElem_set]
    have := hc j hj'
    split
    · rename_i q
      subst q
      rw [if_pos (Array.getElem?_eq_some_iff.1 this).1]
    · exact this
theorem Mine.beside {w0 w : World} {b : Nat} {s : RS} (h : Mine w0 w b s) (e : TypeId) (q : ByteArray) (o : Obj) (ho : (Lib.bytesWorld w e q).heap[w.heap.size]? = some o) : Beside w0 (Lib.bytesWorld w e q) b s w.heap.size o := by
  have hB : Below w.heap.size w (Lib.bytesWorld w e q) := ⟨rfl, rfl, rfl, by rw [Lib.bytesWorld_size]; omega, fun i hi => Lib.bytesWorld_at_old w e q i hi⟩
  obtain ⟨hb, fp, hR, hf⟩ := h
  refine ⟨hb.trans (hB.mono hb.size), ⟨fp, hR.chg (Chg.of_below hB (fun _ => False)) (fun _ _ q => q), fun k hk => ⟨hf k hk, ?_⟩⟩, ho⟩
  have := hR.lt k hk
  omega
theorem Beside.poke {w0 w : World} {b N : Nat} {s : RS} {o o' : Obj} (h : Beside w0 w b s N o) (k : Nat) (x : Value) (hN : w0.heap.size ≤ N) (ho : (w.setCell ⟨N, k, none⟩ x).heap[N]? = some o') : Beside w0 (w.setCell ⟨N, k, none⟩ x) b s N o' := by
  obtain ⟨hb, ⟨fp, hR, hf⟩, hN'⟩ := h
  refine ⟨hb.setCell (p := ⟨N, k, none⟩) hN x, ⟨fp, hR.chg ((Chg.refl (fun i => i = N) w).setCell (p := ⟨N, k, none⟩) (.inl rfl) x) (fun g hg q => (hf g hg).2 q), hf⟩, ho⟩

set_option maxHeartbeats 3200000 in
set_option maxRecDepth 100000 in
theorem safe_walk0 (a b : ByteArray) (keep : Int) (turn : UInt8) (w : World) (h1 : (a.size : Int) + b.size ≤ 20000) (A B K : List UInt8) (hA : Hd (a.data.toList = A)) (hB : Hd (b.data.toList = B)) (hK : Hd (RS.kept B keep turn = K)) :
    Calls Try.prog 3 #[.string a, .string b, .int .i64 keep, .int .u8 turn.toNat, .int .i64 0] w fun e w' => e = .returned (.bool true) ∧ Below w.heap.size w w' := by
  have hb := Below.refl w.heap.size w
  have la : A.length = a.size := by rw [← hA.out]; simp
  have lb : B.length = b.size := by rw [← hB.out]; simp
  have lk : K.length ≤ b.size := by rw [← hK.out, ← lb]; exact RS.kept_length _ _ _
  have E1 : Hd ((lv 40000 [] [] [] [] 0).write 0 a.data.toList = (lv 40000 [] A [] [] 1, 0)) := by rw [hA.out]; exact hd (lv_write0 _ _ _ _ _ _ _ _ _ rfl (by kernel_rfl) (by simp only [List.length_nil]; omega))
  have E2 : Hd ((lv 40000 [] A [] [] 1).sync 0 = (lv 40000 A [] [] [] 2, 0)) := hd (lv_sync0 _ _ _ _ _ _ _ _ rfl (by kernel_rfl))
  have E3 : Hd ((lv 40000 A [] [] [] 2).write 0 b.data.toList = (lv 40000 A B [] [] 3, 0)) := by rw [hB.out]; exact hd (lv_write0 _ _ _ _ _ _ _ _ _ rfl (by kernel_rfl) (by simp only [List.length_nil]; omega))
  have E4 : Hd ((lv 40000 A B [] [] 3).crash keep 0 turn = lv 40000 (A ++ K) [] [] [] 3) := hd (lv_crash _ _ _ _ _ _ _ _ _ _ _ (by first | rw [hK.out] | (rw [kept_nil]; rfl)) (by first | rw [hK.out] | (rw [kept_nil]; rfl)))
  have E5 : Hd ((lv 40000 (A ++ K) [] [] [] 3).crash 0 0 255 = lv 40000 (A ++ K) [] [] [] 3) := hd (lv_crash _ _ _ _ _ _ _ _ _ _ _ (by rw [kept_nil, List.append_nil]) (by rw [kept_nil, List.append_nil]))
  clear la lb lk
  go_enter Try.func3, Try.ntmps3
  go_wp2_with (first | (go_at_call 10; refine (Mine.new 40000 w _ hb (by decide) (by decide)).mono ?_; rintro e w1 ⟨rb, rfl, h0⟩) | (go_at_call 11; refine (num_any _ _).mono ?_; rintro e w' ⟨rfl, rfl⟩))
  refine (h0.write 0 a _ 0 E1.out (by omega)).mono ?_
  rintro e w1 ⟨rfl, h2⟩
  clear h0 hb
  go_wp2_with (go_at_call 11; refine (num_any _ _).mono ?_; rintro e w' ⟨rfl, rfl⟩)
  refine (h2.sync 0 _ 0 E2.out).mono ?_
  rintro e w1 ⟨rfl, h3⟩
  clear h2
  go_wp2_with (go_at_call 11; refine (num_any _ _).mono ?_; rintro e w' ⟨rfl, rfl⟩)
  refine (h3.write 0 b _ 0 E3.out (by omega)).mono ?_
  rintro e w1 ⟨rfl, h4⟩
  clear h3
  go_wp2_with (go_at_call 11; refine (num_any _ _).mono ?_; rintro e w' ⟨rfl, rfl⟩)
  refine ((h4.grown ((Below.refl _ _).alloc (Nat.le_refl _) _)).crash keep 0 turn _ rfl _ E4.out).mono ?_
  rintro e w1 ⟨rfl, h5⟩
  clear h4
  have g1 := keep_size b keep
  have g2 := keep_le b.data.toList keep
  have HK := hd (RS.kept_eq B keep turn)
  rw [hB.out] at g1 g2
  generalize RS.keepn B keep = m at *
  have g3 : m ≤ b.size := by rw [← hB.out] at g2; simpa using g2
  obtain ⟨S, hS⟩ : ∃ S, a ++ b.extract 0 m = S := ⟨_, rfl⟩
  have hSl : S.data.toList = A ++ B.take m := by rw [← hS, ← hA.out, ← hB.out]; simp
  have hSs : S.size = a.size + m := by rw [← hS]; simp [ByteArray.size_append]; omega
  have HSl := hd hSl
  have HSs := hd hSs
  have kc := fun W : World => Lib.run_convert_string_bytes (P := Try.prog) W 9 34 5 S Try.underlying9 Try.underlying34 Try.underlying5
  obtain ⟨o, hoN, hoT⟩ := Tells.new w1 5 S _ hSl
  have HNN := hd h5.below.size
  have HB := hd (h5.beside 5 S o hoN)
  have HT := hd hoT
  have HoN := hd hoN
  clear hSl hSs h5 hoN hoT
  have RD1 : Hd ((lv 40000 (A ++ K) [] [] [] 3).read 0 = (A ++ K, 0)) := hd (lv_read0 _ _ _ _ _ _ _ (by simp))
  have RD2 : Hd ((lv 40000 (A ++ K) [] [] [] 3).read 1 = ([], 0)) := hd (lv_read1 _ _ _ _ _ _ _ (by simp))
  have s0 : (str []).toList = [] := by rw [str_bytes]
  by_cases hm : m = 0
  · have hm0 : ¬ 0 < (m : Int) := by omega
    have hk0 : K = [] := by rw [← hK.out, HK.out, hm]; simp
    have HLen : Hd (S.size = (A ++ K).length) := hd (by rw [HSs.out, hk0, hm, ← hA.out]; simp)
    rw [hm, List.take_zero, ← hk0] at HT
    have hSa : S = a := by
      have h0 : S.data.toList = a.data.toList := by rw [HSl.out, hm, ← hA.out]; simp
      cases S; cases a; simp at h0 ⊢; exact h0
    subst hSa
    clear hm HK hk0 HSl HSs hA hB hK hS
    go_wp2_with (fail)
    all_goals
      refine (HB.out.read 0 (A ++ K) 0 RD1.out).mono ?_
      rintro e w2 ⟨rfl, h6⟩
      clear HB
      go_wp2_with (go_at_call 11; refine (num_any _ _).mono ?_; rintro e w' ⟨rfl, rfl⟩)
      all_goals
        refine (h6.crash 0 0 255 _ rfl _ E5.out).mono ?_
        rintro e w2 ⟨rfl, h7⟩
        clear h6
        go_wp2_with (go_at_call 11; refine (num_any _ _).mono ?_; rintro e w' ⟨rfl, rfl⟩)
        refine (h7.read 0 (A ++ K) 0 RD1.out).mono ?_
        rintro e w2 ⟨rfl, h8⟩
        clear h7
        go_wp2_with (go_at_call 11; refine (num_any _ _).mono ?_; rintro e w' ⟨rfl, rfl⟩)
        refine (h8.read 1 [] 0 RD2.out).mono ?_
        rintro e w2 ⟨rfl, h9⟩
        clear h8
        have ks : ∀ cap, (convert 34 9 (.slice (some ⟨w1.heap.size, 0, none⟩) S.size cap)).run Try.prog w2 = .ok (.string (str (A ++ K))) w2 := fun cap => HT.out.string h9.obj _ _ HLen.out
        go_wp2_with (go_at_call 11; refine (num_any _ _).mono ?_; rintro e w' ⟨rfl, rfl⟩)
        all_goals
          refine (live_call w _ h9.below).mono ?_
          rintro e w3 ⟨rfl, hl⟩
          go_wp2
          all_goals
            go_ret
            exact ⟨rfl, hl⟩
  · have hm0 : 0 < (m : Int) := by omega
    have hlen : (B.take m).length = m := by simp; omega
    have hkk : K = (B.take m).set (m - 1) ((B.take m).getD (m - 1) 0 ^^^ turn) := by rw [← hK.out, HK.out, hlen, if_neg hm]
    have hal : A.length = a.size := by rw [← hA.out]; simp
    have hS1 : 0 < S.size := by rw [HSs.out]; omega
    have hidx : S.size - 1 = A.length + (m - 1) := by rw [HSs.out, hal]; omega
    have hget : S.data.toList.getD (S.size - 1) 0 = (B.take m).getD (m - 1) 0 := by
      rw [HSl.out, hidx]
      simp only [List.getD]
      rw [List.getElem?_append_right (by omega), show A.length + (m - 1) - A.length = m - 1 from by omega]
    have hset : (A ++ B.take m).set (S.size - 1) ((B.take m).getD (m - 1) 0 ^^^ turn) = A ++ K := by
      rw [hkk, hidx, List.set_append_right _ _ (by omega), show A.length + (m - 1) - A.length = m - 1 from by omega]
    have HLen : Hd (S.size = (A ++ K).length) := hd (by rw [HSs.out, List.length_append, hal, hkk, List.length_set, hlen])
    have ck : (Lib.bytesWorld w1 5 S).cell? ⟨w1.heap.size, S.size - 1, none⟩ = some (.int .u8 ((B.take m).getD (m - 1) 0).toNat) := by rw [Lib.bytesWorld_cell _ _ _ _ (by omega), hget]
    have cf := bytes_frozen w1 5 S (S.size - 1) (by omega)
    obtain ⟨o2, ho2, hT2⟩ := HT.out.set HoN.out (S.size - 1) ((B.take m).getD (m - 1) 0 ^^^ turn)
    rw [hset] at hT2
    have HT2 := hd hT2
    have HB2 := hd (HB.out.poke (S.size - 1) _ HNN.out ho2)
    have g4 : (if (b.size : Int) < keep then (b.size : Int) else keep) = (m : Int) := by
      rw [← g1]; split <;> split <;> omega
    have hS2 : S.size ≤ 20000 := by rw [HSs.out]; omega
    generalize (B.take m).getD (m - 1) 0 = x at *
    clear hlen hkk hal hidx hget hset hT2 ho2 g1 g2 hm HK HSl HSs hA hB hK HoN HB HT
    go_wp2_with (fail)
    rw [xor_byte]
    refine (HB2.out.read 0 (A ++ K) 0 RD1.out).mono ?_
    rintro e w2 ⟨rfl, h6⟩
    clear HB2
    go_wp2_with (go_at_call 11; refine (num_any _ _).mono ?_; rintro e w' ⟨rfl, rfl⟩)
    refine (h6.crash 0 0 255 _ rfl _ E5.out).mono ?_
    rintro e w2 ⟨rfl, h7⟩
    clear h6
    go_wp2_with (go_at_call 11; refine (num_any _ _).mono ?_; rintro e w' ⟨rfl, rfl⟩)
    refine (h7.read 0 (A ++ K) 0 RD1.out).mono ?_
    rintro e w2 ⟨rfl, h8⟩
    clear h7
    go_wp2_with (go_at_call 11; refine (num_any _ _).mono ?_; rintro e w' ⟨rfl, rfl⟩)
    refine (h8.read 1 [] 0 RD2.out).mono ?_
    rintro e w2 ⟨rfl, h9⟩
    clear h8
    have ks : ∀ cap, (convert 34 9 (.slice (some ⟨w1.heap.size, 0, none⟩) S.size cap)).run Try.prog w2 = .ok (.string (str (A ++ K))) w2 := fun cap => HT2.out.string h9.obj _ _ HLen.out
    go_wp2_with (go_at_call 11; refine (num_any _ _).mono ?_; rintro e w' ⟨rfl, rfl⟩)
    refine (live_call w _ h9.below).mono ?_
    rintro e w3 ⟨rfl, hl⟩
    go_wp2
    go_ret
    exact ⟨rfl, hl⟩
set_option maxHeartbeats 3200000 in
set_option maxRecDepth 100000 in
theorem safe_walk1 (a b : ByteArray) (keep : Int) (turn : UInt8) (w : World) (h1 : (a.size : Int) + b.size ≤ 20000) (A B K : List UInt8) (hA : Hd (a.data.toList = A)) (hB : Hd (b.data.toList = B)) (hK : Hd (RS.kept B keep turn = K)) :
    Calls Try.prog 3 #[.string a, .string b, .int .i64 keep, .int .u8 turn.toNat, .int .i64 1] w fun e w' => e = .returned (.bool true) ∧ Below w.heap.size w w' := by
  have hb := Below.refl w.heap.size w
  have la : A.length = a.size := by rw [← hA.out]; simp
  have lb : B.length = b.size := by rw [← hB.out]; simp
  have lk : K.length ≤ b.size := by rw [← hK.out, ← lb]; exact RS.kept_length _ _ _
  have E1 : Hd ((lv 40000 [] [] [] [] 0).write 1 a.data.toList = (lv 40000 [] [] [] A 1, 0)) := by rw [hA.out]; exact hd (lv_write1 _ _ _ _ _ _ _ _ _ rfl (by kernel_rfl) (by simp only [List.length_nil]; omega))
  have E2 : Hd ((lv 40000 [] [] [] A 1).sync 1 = (lv 40000 [] [] A [] 2, 0)) := hd (lv_sync1 _ _ _ _ _ _ _ _ rfl (by kernel_rfl))
  have E3 : Hd ((lv 40000 [] [] A [] 2).write 1 b.data.toList = (lv 40000 [] [] A B 3, 0)) := by rw [hB.out]; exact hd (lv_write1 _ _ _ _ _ _ _ _ _ rfl (by kernel_rfl) (by simp only [List.length_nil]; omega))
  have E4 : Hd ((lv 40000 [] [] A B 3).crash 0 keep turn = lv 40000 [] [] (A ++ K) [] 3) := hd (lv_crash _ _ _ _ _ _ _ _ _ _ _ (by first | rw [hK.out] | (rw [kept_nil]; rfl)) (by first | rw [hK.out] | (rw [kept_nil]; rfl)))
  have E5 : Hd ((lv 40000 [] [] (A ++ K) [] 3).crash 0 0 255 = lv 40000 [] [] (A ++ K) [] 3) := hd (lv_crash _ _ _ _ _ _ _ _ _ _ _ (by rw [kept_nil, List.append_nil]) (by rw [kept_nil, List.append_nil]))
  clear la lb lk
  go_enter Try.func3, Try.ntmps3
  go_wp2_with (first | (go_at_call 10; refine (Mine.new 40000 w _ hb (by decide) (by decide)).mono ?_; rintro e w1 ⟨rb, rfl, h0⟩) | (go_at_call 11; refine (num_any _ _).mono ?_; rintro e w' ⟨rfl, rfl⟩))
  refine (h0.write 1 a _ 0 E1.out (by omega)).mono ?_
  rintro e w1 ⟨rfl, h2⟩
  clear h0 hb
  go_wp2_with (go_at_call 11; refine (num_any _ _).mono ?_; rintro e w' ⟨rfl, rfl⟩)
  refine (h2.sync 1 _ 0 E2.out).mono ?_
  rintro e w1 ⟨rfl, h3⟩
  clear h2
  go_wp2_with (go_at_call 11; refine (num_any _ _).mono ?_; rintro e w' ⟨rfl, rfl⟩)
  refine (h3.write 1 b _ 0 E3.out (by omega)).mono ?_
  rintro e w1 ⟨rfl, h4⟩
  clear h3
  go_wp2_with (go_at_call 11; refine (num_any _ _).mono ?_; rintro e w' ⟨rfl, rfl⟩)
  refine ((h4.grown ((Below.refl _ _).alloc (Nat.le_refl _) _)).crash 0 keep turn _ rfl _ E4.out).mono ?_
  rintro e w1 ⟨rfl, h5⟩
  clear h4
  have g1 := keep_size b keep
  have g2 := keep_le b.data.toList keep
  have HK := hd (RS.kept_eq B keep turn)
  rw [hB.out] at g1 g2
  generalize RS.keepn B keep = m at *
  have g3 : m ≤ b.size := by rw [← hB.out] at g2; simpa using g2
  obtain ⟨S, hS⟩ : ∃ S, a ++ b.extract 0 m = S := ⟨_, rfl⟩
  have hSl : S.data.toList = A ++ B.take m := by rw [← hS, ← hA.out, ← hB.out]; simp
  have hSs : S.size = a.size + m := by rw [← hS]; simp [ByteArray.size_append]; omega
  have HSl := hd hSl
  have HSs := hd hSs
  have kc := fun W : World => Lib.run_convert_string_bytes (P := Try.prog) W 9 34 5 S Try.underlying9 Try.underlying34 Try.underlying5
  obtain ⟨o, hoN, hoT⟩ := Tells.new w1 5 S _ hSl
  have HNN := hd h5.below.size
  have HB := hd (h5.beside 5 S o hoN)
  have HT := hd hoT
  have HoN := hd hoN
  clear hSl hSs h5 hoN hoT
  have RD1 : Hd ((lv 40000 [] [] (A ++ K) [] 3).read 1 = (A ++ K, 0)) := hd (lv_read1 _ _ _ _ _ _ _ (by simp))
  have RD2 : Hd ((lv 40000 [] [] (A ++ K) [] 3).read 0 = ([], 0)) := hd (lv_read0 _ _ _ _ _ _ _ (by simp))
  have s0 : (str []).toList = [] := by rw [str_bytes]
  by_cases hm : m = 0
  · have hm0 : ¬ 0 < (m : Int) := by omega
    have hk0 : K = [] := by rw [← hK.out, HK.out, hm]; simp
    have HLen : Hd (S.size = (A ++ K).length) := hd (by rw [HSs.out, hk0, hm, ← hA.out]; simp)
    rw [hm, List.take_zero, ← hk0] at HT
    have hSa : S = a := by
      have h0 : S.data.toList = a.data.toList := by rw [HSl.out, hm, ← hA.out]; simp
      cases S; cases a; simp at h0 ⊢; exact h0
    subst hSa
    clear hm HK hk0 HSl HSs hA hB hK hS
    go_wp2_with (fail)
    all_goals
      refine (HB.out.read 1 (A ++ K) 0 RD1.out).mono ?_
      rintro e w2 ⟨rfl, h6⟩
      clear HB
      go_wp2_with (go_at_call 11; refine (num_any _ _).mono ?_; rintro e w' ⟨rfl, rfl⟩)
      all_goals
        refine (h6.crash 0 0 255 _ rfl _ E5.out).mono ?_
        rintro e w2 ⟨rfl, h7⟩
        clear h6
        go_wp2_with (go_at_call 11; refine (num_any _ _).mono ?_; rintro e w' ⟨rfl, rfl⟩)
        refine (h7.read 1 (A ++ K) 0 RD1.out).mono ?_
        rintro e w2 ⟨rfl, h8⟩
        clear h7
        go_wp2_with (go_at_call 11; refine (num_any _ _).mono ?_; rintro e w' ⟨rfl, rfl⟩)
        refine (h8.read 0 [] 0 RD2.out).mono ?_
        rintro e w2 ⟨rfl, h9⟩
        clear h8
        have ks : ∀ cap, (convert 34 9 (.slice (some ⟨w1.heap.size, 0, none⟩) S.size cap)).run Try.prog w2 = .ok (.string (str (A ++ K))) w2 := fun cap => HT.out.string h9.obj _ _ HLen.out
        go_wp2_with (go_at_call 11; refine (num_any _ _).mono ?_; rintro e w' ⟨rfl, rfl⟩)
        all_goals
          refine (live_call w _ h9.below).mono ?_
          rintro e w3 ⟨rfl, hl⟩
          go_wp2
          all_goals
            go_ret
            exact ⟨rfl, hl⟩
  · have hm0 : 0 < (m : Int) := by omega
    have hlen : (B.take m).length = m := by simp; omega
    have hkk : K = (B.take m).set (m - 1) ((B.take m).getD (m - 1) 0 ^^^ turn) := by rw [← hK.out, HK.out, hlen, if_neg hm]
    have hal : A.length = a.size := by rw [← hA.out]; simp
    have hS1 : 0 < S.size := by rw [HSs.out]; omega
    have hidx : S.size - 1 = A.length + (m - 1) := by rw [HSs.out, hal]; omega
    have hget : S.data.toList.getD (S.size - 1) 0 = (B.take m).getD (m - 1) 0 := by
      rw [HSl.out, hidx]
      simp only [List.getD]
      rw [List.getElem?_append_right (by omega), show A.length + (m - 1) - A.length = m - 1 from by omega]
    have hset : (A ++ B.take m).set (S.size - 1) ((B.take m).getD (m - 1) 0 ^^^ turn) = A ++ K := by
      rw [hkk, hidx, List.set_append_right _ _ (by omega), show A.length + (m - 1) - A.length = m - 1 from by omega]
    have HLen : Hd (S.size = (A ++ K).length) := hd (by rw [HSs.out, List.length_append, hal, hkk, List.length_set, hlen])
    have ck : (Lib.bytesWorld w1 5 S).cell? ⟨w1.heap.size, S.size - 1, none⟩ = some (.int .u8 ((B.take m).getD (m - 1) 0).toNat) := by rw [Lib.bytesWorld_cell _ _ _ _ (by omega), hget]
    have cf := bytes_frozen w1 5 S (S.size - 1) (by omega)
    obtain ⟨o2, ho2, hT2⟩ := HT.out.set HoN.out (S.size - 1) ((B.take m).getD (m - 1) 0 ^^^ turn)
    rw [hset] at hT2
    have HT2 := hd hT2
    have HB2 := hd (HB.out.poke (S.size - 1) _ HNN.out ho2)
    have g4 : (if (b.size : Int) < keep then (b.size : Int) else keep) = (m : Int) := by
      rw [← g1]; split <;> split <;> omega
    have hS2 : S.size ≤ 20000 := by rw [HSs.out]; omega
    generalize (B.take m).getD (m - 1) 0 = x at *
    clear hlen hkk hal hidx hget hset hT2 ho2 g1 g2 hm HK HSl HSs hA hB hK HoN HB HT
    go_wp2_with (fail)
    rw [xor_byte]
    refine (HB2.out.read 1 (A ++ K) 0 RD1.out).mono ?_
    rintro e w2 ⟨rfl, h6⟩
    clear HB2
    go_wp2_with (go_at_call 11; refine (num_any _ _).mono ?_; rintro e w' ⟨rfl, rfl⟩)
    refine (h6.crash 0 0 255 _ rfl _ E5.out).mono ?_
    rintro e w2 ⟨rfl, h7⟩
    clear h6
    go_wp2_with (go_at_call 11; refine (num_any _ _).mono ?_; rintro e w' ⟨rfl, rfl⟩)
    refine (h7.read 1 (A ++ K) 0 RD1.out).mono ?_
    rintro e w2 ⟨rfl, h8⟩
    clear h7
    go_wp2_with (go_at_call 11; refine (num_any _ _).mono ?_; rintro e w' ⟨rfl, rfl⟩)
    refine (h8.read 0 [] 0 RD2.out).mono ?_
    rintro e w2 ⟨rfl, h9⟩
    clear h8
    have ks : ∀ cap, (convert 34 9 (.slice (some ⟨w1.heap.size, 0, none⟩) S.size cap)).run Try.prog w2 = .ok (.string (str (A ++ K))) w2 := fun cap => HT2.out.string h9.obj _ _ HLen.out
    go_wp2_with (go_at_call 11; refine (num_any _ _).mono ?_; rintro e w' ⟨rfl, rfl⟩)
    refine (live_call w _ h9.below).mono ?_
    rintro e w3 ⟨rfl, hl⟩
    go_wp2
    go_ret
    exact ⟨rfl, hl⟩
theorem u8_of (x : Int) (h : (Lit.int .u8 x).wf = true) : ∃ y : UInt8, x = y.toNat := by
  have hb : 0 ≤ x ∧ x ≤ 255 := by simpa [Lit.wf, IntKind.min, IntKind.max, IntKind.signed, IntKind.bits] using h
  refine ⟨UInt8.ofNat x.toNat, ?_⟩
  simp
  omega
set_option maxHeartbeats 3200000 in
set_option maxRecDepth 100000 in
theorem safe_walk (a : ByteArray) (ha : a.size ≤ 140737488351232) (b : ByteArray) (hb0 : b.size ≤ 140737488351232) (keep : Int) (hk : (Lit.int .i64 keep).wf = true) (turn : Int) (ht : (Lit.int .u8 turn).wf = true) (t : Int) (htt : (Lit.int .i64 t).wf = true) (w : World) :
    Calls Try.prog 3 #[.string a, .string b, .int .i64 keep, .int .u8 turn, .int .i64 t] w fun e w' => e = .returned (.bool true) ∧ Below w.heap.size w w' := by
  have hb := Below.refl w.heap.size w
  obtain ⟨tu, rfl⟩ := u8_of turn ht
  by_cases h1 : (20000 : Int) < (a.size : Int) + b.size
  · clear hk ht htt
    go_enter Try.func3, Try.ntmps3
    go_wp2_with (go_at_call 9; refine (live_call w _ hb).mono ?_; rintro e w1 ⟨rfl, hl⟩)
    go_ret
    exact ⟨rfl, hl⟩
  by_cases h2 : t < 0
  · clear hk ht htt
    go_enter Try.func3, Try.ntmps3
    go_wp2_with (go_at_call 9; refine (live_call w _ hb).mono ?_; rintro e w1 ⟨rfl, hl⟩)
    go_ret
    exact ⟨rfl, hl⟩
  by_cases h3 : 1 < t
  · clear hk ht htt
    go_enter Try.func3, Try.ntmps3
    go_wp2_with (go_at_call 9; refine (live_call w _ hb).mono ?_; rintro e w1 ⟨rfl, hl⟩)
    go_ret
    exact ⟨rfl, hl⟩
  rcases (show t = 0 ∨ t = 1 from by omega) with rfl | rfl
  · exact safe_walk0 a b keep tu w (by omega) _ _ _ (hd rfl) (hd rfl) (hd rfl)
  · exact safe_walk1 a b keep tu w (by omega) _ _ _ (hd rfl) (hd rfl) (hd rfl)
end Go.Proofs.Ytjmddbhbibmjdaa
