/-
  Lemmas, joined of the texts K4 K5.
-/
import Derived.Test.YtopajmbblemopaaGreatDoorMB15
import Derived.Laws.BitsAllLaws
import Derived.Test.YtopajmbblemopaaGreatDoorMB5
namespace Go.Proofs.YtopajmbblemopaaGreatDoor
set_option linter.unusedVariables false
set_option linter.unusedSimpArgs false
open Go.RowKit Go.Lib Go.Proofs.YtopajmbblemopaaGreatDoorW.PrintWords Go.Proofs.YtopajmbblemopaaGreatDoorW.PrintLast
theorem sum_or (a b : Nat) (ha : a < 65521) (hb : b < 65521) : bits .or .u32 ((b : Int) * 65536) (a : Int) = ((b * 65536 + a : Nat) : Int) := by
  have e : ((b : Int) * 65536) = ((b * 65536 : Nat) : Int) := by omega
  rw [e, u32_or_nat _ _ (by omega) (by omega)]
  have := Nat.shiftLeft_add_eq_or_of_lt (a := b) (b := a) (i := 16) (by omega)
  rw [Nat.shiftLeft_eq] at this
  rw [← this]
theorem bs_get (s : ByteArray) (k : Nat) (h : k < s.size) : (bsL s).drop k = s[k] :: (bsL s).drop (k + 1) := by
  have hl : k < (bsL s).length := by rw [bs_size]; exact h
  rw [List.drop_eq_getElem_cons hl]
  rfl
set_option maxHeartbeats 800000 in
theorem sum_walk (s : ByteArray) (w : World) (hs : s.size ≤ 281474976710656) : Calls Tryz.prog 105 #[.string s] w fun e w' => e = .returned (.int .u32 (sumL (bsL s) : Nat)) ∧ w = w' := by
  have HS := hd hs
  clear hs
  go_enter Tryz.func105, Tryz.ntmps105
  go_wp2_with (fail)
  go_loopw [3, 4, 8] (fun x y i wr => ∃ k a b : Nat, k ≤ s.size ∧ a < 65521 ∧ b < 65521 ∧ x = .int .u32 a ∧ y = .int .u32 b ∧ i = .int .i64 k ∧ w = wr ∧ Hd (sumGo ((bsL s).drop k) (a, b) = sumGo (bsL s) (1, 0))) (fun _ _ i _ => s.size - (RowKit.intOf i).toNat)
  case atStart => exact ⟨0, 1, 0, by omega, by omega, by omega, rfl, rfl, rfl, rfl, ⟨rfl⟩⟩
  case round =>
    obtain ⟨k, a, b, hk, ha, hb, rfl, rfl, rfl, rfl, HE⟩ := hrel
    have hss := HS.out
    by_cases hlt : k < s.size
    · have hE := HE.out
      rw [bs_get s k hlt, sumGo] at hE
      have HE2 := hd hE
      have hx := s[k].toNat_lt
      clear HE hE
      go_wp2_with (fail)
      go_roundw
      case rel => exact ⟨k + 1, (a + s[k].toNat) % 65521, (b + (a + s[k].toNat) % 65521) % 65521, by omega, Nat.mod_lt _ (by decide), Nat.mod_lt _ (by decide), by go_num, by go_num, by go_num, trivial, HE2⟩
      case measure => simp [RowKit.intOf]; omega
    · have hk' : k = s.size := by omega
      subst hk'
      have hE := HE.out
      rw [List.drop_eq_nil_of_le (by rw [bs_size]; exact Nat.le_refl _), sumGo] at hE
      have HE2 := hd hE
      have ho := sum_or a b ha hb
      clear HE hE
      go_wp2_with (fail)
      go_ret
      refine ⟨?_, rfl⟩
      unfold sumL
      rw [← HE2.out]
      rfl

/-! ### Seal -/
/-- The last k digits of n, the first ahead. -/
def low : Nat → Nat → Txt
  | 0, _ => []
  | k + 1, n => hexD (n / 16 ^ k % 16) :: low k n
theorem low8 (n : Nat) : low 8 n = hex8 n := by
  simp [low, hex8]
theorem hex_at (d : Nat) (h : d < 16) : (⟨#[48, 49, 50, 51, 52, 53, 54, 55, 56, 57, 97, 98, 99, 100, 101, 102]⟩ : ByteArray)[d]'h = hexD d := by
  revert h
  revert d
  decide
/-- What stands in the array when k digits are laid. -/
def laidD (n k : Nat) : Txt := List.replicate (8 - k) 0 ++ low k n
theorem laidD_set (n k : Nat) (h : k < 8) : (laidD n k).set (7 - k) (hexD (n / 16 ^ k % 16)) = laidD n (k + 1) := by
  unfold laidD
  have e : 8 - k = (7 - k) + 1 := by omega
  have e2 : 8 - (k + 1) = 7 - k := by omega
  rw [e, e2, List.replicate_succ', List.append_assoc, List.set_append_right _ _ (by simp)]
  simp [low]
theorem low_length (n : Nat) : ∀ k, (low k n).length = k
  | 0 => rfl
  | k + 1 => by simp [low, low_length n k]
theorem laidD_length (n k : Nat) (h : k ≤ 8) : (laidD n k).length = 8 := by
  unfold laidD
  rw [List.length_append, List.length_replicate, low_length]
  omega
theorem u8s_set (l : Txt) (j : Nat) (x : UInt8) : (u8s l).set j (.int .u8 x.toNat) = u8s (l.set j x) := by
  unfold u8s
  rw [List.map_set]
end Go.Proofs.YtopajmbblemopaaGreatDoor
namespace Go.Proofs.YtopajmbblemopaaGreatDoor
set_option linter.unusedVariables false
set_option linter.unusedSimpArgs false
open Go.RowKit Go.Lib Go.Proofs.YtopajmbblemopaaGreatDoorW.PrintWords Go.Proofs.YtopajmbblemopaaGreatDoorW.PrintLast
/-- string(b[:]), b an array of bytes. -/
theorem conv_blk {P : Program} {w : World} {src e dst T : TypeId} (hs : P.underlying src = some (.slice e)) (he : P.underlying e = some (.int .u8)) (hd : P.underlying dst = some .string)
    {b : Nat} {l : Txt} (h : Blk w b (u8s l) T) (cap : Nat) : (convert src dst (.slice (some ⟨b, 0, none⟩) l.length cap)).run P w = .ok (.string (str l)) w := by
  have h1 := run_convert_bytes_arg w src e hs he b 0 l.length cap (l.map fun b => (b.toNat : Int)) (by simp) (fun i hi => ?_) dst hd
  · rw [h1]
    congr 2
    simp [strOfNums, str, Function.comp_def]
  · rw [Nat.zero_add, h.cell i]
    have hi' : i < l.length := by simpa using hi
    simp [u8s, hi']
set_option maxHeartbeats 800000 in
theorem seal_walk (s : ByteArray) (w : World) (hs : s.size ≤ 281474976710640) : Calls Tryz.prog 86 #[.string s] w fun e w' => e = .returned (.string (str (sealL (bsL s)))) ∧ Below w.heap.size w w' := by
  have hS := hd (fun w' => sum_walk s w' (by omega))
  have hlt : sumL (bsL s) < 4294967296 := by
    have key : ∀ (l : Txt) (p : Nat × Nat), p.1 < 65521 → p.2 < 65521 → (sumGo l p).1 < 65521 ∧ (sumGo l p).2 < 65521 := by
      intro l
      induction l with
      | nil => intro p h1 h2; exact ⟨h1, h2⟩
      | cons x l ih => intro p h1 h2; exact ih _ (Nat.mod_lt _ (by decide)) (Nat.mod_lt _ (by decide))
    obtain ⟨h1, h2⟩ := key (bsL s) (1, 0) (by decide) (by decide)
    unfold sumL
    omega
  obtain ⟨n, hn⟩ : ∃ n, sumL (bsL s) = n := ⟨_, rfl⟩
  rw [hn] at hS hlt
  have HN := hd hn
  have HS := hd hs
  clear hn hs
  go_enter Tryz.func86, Tryz.ntmps86
  go_wp2_with (go_at_call 105; refine (hS.out _).mono ?_; rintro e w1 ⟨rfl, rfl⟩)
  have hB0 := hd (Blk.new w (u8s (laidD n 0)) 163)
  have hD0 := hd ((Below.refl w.heap.size w).alloc (Nat.le_refl _) (.cells (u8s (laidD n 0)).toArray 163))
  go_loopw [4, 8] (fun x i wr => ∃ k : Nat, k ≤ 8 ∧ x = .int .u32 ((n / 16 ^ k : Nat) : Int) ∧ i = .int .i64 k ∧ Hd (Blk wr w.heap.size (u8s (laidD n k)) 163) ∧ Hd (Below w.heap.size w wr)) (fun _ i _ => 8 - (RowKit.intOf i).toNat)
  case atStart => exact ⟨0, by omega, by simp, rfl, hB0, hD0⟩
  case round =>
    obtain ⟨k, hk, rfl, rfl, HB, HD⟩ := hrel
    by_cases hlt2 : k < 8
    · have hm : n / 16 ^ k < 4294967296 := Nat.lt_of_le_of_lt (Nat.div_le_self _ _) hlt
      obtain ⟨m, hm0⟩ : ∃ m, n / 16 ^ k = m := ⟨_, rfl⟩
      rw [hm0] at hm ⊢
      have HM := hd hm0
      clear hm0
      have hll : (u8s (laidD n k)).length = 8 := by rw [u8s_length]; exact laidD_length n k hk
      obtain ⟨v, hv⟩ : ∃ v, (u8s (laidD n k))[7 - k]? = some v := ⟨_, List.getElem?_eq_getElem (by omega)⟩
      have c0 := (HB.out.cell (7 - k)).trans hv
      have q0 := HB.out.frozen (7 - k)
      have hx := hex_at (m % 16) (Nat.mod_lt _ (by decide))
      have hx16 : m % 16 < 16 := Nat.mod_lt _ (by decide)
      obtain ⟨d, hd0⟩ : ∃ d, m % 16 = d := ⟨_, rfl⟩
      have HB2 := hd (HB.out.set (7 - k) (.int .u8 (hexD (n / 16 ^ k % 16)).toNat))
      rw [u8s_set, laidD_set n k hlt2, HM.out] at HB2
      clear hll hv HB hB0 hD0 hd0
      go_wp2_with (fail)
      go_roundw
      case rel => exact ⟨k + 1, by omega, by rw [Nat.pow_succ, ← Nat.div_div_eq_div_mul, HM.out]; go_num, by go_num, HB2, hd (HD.out.setCell (Nat.le_refl _) _)⟩
      case measure => simp [RowKit.intOf]; omega
    · have hk' : k = 8 := by omega
      subst hk'
      have e8 : laidD n 8 = hex8 n := by unfold laidD; rw [low8]; rfl
      rw [e8] at HB
      have k0 := conv_blk Tryz.underlying72 Tryz.underlying5 Tryz.underlying9 HB.out 8
      have hl8 : (hex8 n).length = 8 := rfl
      rw [hl8] at k0
      have z1 : (str (hex8 n)).size = 8 := rfl
      have z2 := HS.out
      have eS : s ++ str (hex8 n) = str (sealL (bsL s)) := by
        unfold sealL
        rw [HN.out]
        have := ByteArray.mk_append_mk (bsL s) (hex8 n)
        have h2 : (⟨(bsL s).toArray⟩ : ByteArray) = s := of_bs s
        rw [h2] at this
        exact this
      have HE := hd eS
      clear e8 hl8 eS HB hB0 hD0
      go_wp2_with (fail)
      go_ret
      rw [← HE.out]
      exact ⟨rfl, HD.out⟩
end Go.Proofs.YtopajmbblemopaaGreatDoor
