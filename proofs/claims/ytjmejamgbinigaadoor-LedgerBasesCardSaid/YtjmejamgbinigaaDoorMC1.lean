/-
  Lemmas, joined of the texts WLAll WLBases.
-/
import Derived.Test.YtjmejamgbinigaaDoorMB17
namespace Go.Proofs.YtjmejamgbinigaaDoor
set_option linter.unusedVariables false
set_option linter.unusedSimpArgs false
open Go.RowKit Go.Proofs.YtjmejamgbinigaaDoorW.PrintWords Go.Proofs.YtjmejamgbinigaaDoorW.PrintLast
/-- The live law at a law's end. -/
def LiveAt (w : World) : Prop := ∀ w', Below w.heap.size w w' → Calls Tryd.prog 9 #[] w' fun e w2 => e = .returned (.bool true) ∧ Below w.heap.size w w2
theorem live_at {w : World} (hG : Gl w) : LiveAt w := fun w' hb => live4_any w w' hG hb
/-- The ledger behind k records. -/
structure AllAt (w0 w : World) (base : ByteArray) (l : List ByteArray) (k : Nat) (b lb : Nat) (s : RS) (L : LS) (fp : List Nat) : Prop where
  mine : MineL w0 w b s fp
  led : Lg w0 w b fp lb L
  clean : Clean s L (bsL base) ((l.take k).map bsL)
  epoch : L.epoch = 2
  left : s.left = -1
  room : s.room = 4194304
  used : s.used ≤ 280 + base.size + tot l k + 140 * k
theorem AllAt.recs {w0 w : World} {base : ByteArray} {l : List ByteArray} {k b lb : Nat} {s : RS} {L : LS} {fp : List Nat} (h : AllAt w0 w base l k b lb s L fp) (hk : k ≤ l.length) : L.recs = k := by
  rw [h.clean.n]
  simp
  omega
theorem all_next {w0 w : World} {base : ByteArray} {l : List ByteArray} {k b lb : Nat} {s : RS} {L : LS} {fp : List Nat} (hG : Gl w0) (h : AllAt w0 w base l k b lb s L fp) (x : ByteArray) (hx : l[k]? = some x) (h50 : l.length ≤ 50) (ht : base.size + tot l l.length ≤ 8000) :
    Calls Tryd.prog 14 #[.pointer (some ⟨lb, 0, none⟩), .string x] w fun r w' => r = .returned (.int .i64 0) ∧ ∃ s' L' fp', AllAt w0 w' base l (k + 1) b lb s' L' fp' := by
  have hk := (List.getElem?_eq_some_iff.1 hx).1
  have ts := tot_succ l k x hx
  have tm := tot_mono l (k + 1) l.length hk
  have hu := h.used
  have zx := bs_size x
  have zx' : (bsL x).length = x.size := zx.symm
  rcases h.clean.add (bsL x) (by omega) (by rw [free_eq, h.room]; omega) (by simp; omega) with ⟨s', L', ha, hc, t1, t2, t3, t4, t5, t6⟩ | ⟨q, _⟩
  · refine (own_add hG h.mine h.led h.clean.lok x (by omega) s' L' 0 ha).mono ?_
    rintro r w' ⟨rfl, fp', hm, hl, _⟩
    refine ⟨rfl, s', L', fp', hm, hl, ?_, t2.trans h.epoch, t6 h.left, t4.trans h.room, by omega⟩
    rw [take_map_succ l k x hx]
    exact hc
  · exact absurd h.left q
theorem all_end {w0 w : World} {base : ByteArray} {l : List ByteArray} {b lb : Nat} {s : RS} {L : LS} {fp : List Nat} (hG : Gl w0) (h : AllAt w0 w base l l.length b lb s L fp) :
    Calls Tryd.prog 17 #[.pointer (some ⟨b, 0, none⟩), .agg #[.int .i64 0, .int .i64 0, .int .u8 0]] w fun r w1 => r = .returned (.tuple #[]) ∧
      ∀ n, Calls Tryd.prog 12 #[.pointer (some ⟨b, 0, none⟩)] (w1.drewN n) fun r w2 => ∃ lb' v s' L' fp' B, r = .returned (.tuple #[.pointer (some ⟨lb', 0, none⟩), .string base, v, .int .i64 0]) ∧ MineL w0 w2 b s' fp' ∧ Lg w0 w2 b fp' lb' L' ∧ L'.epoch = 2 ∧ L'.recs = l.length ∧
        Kd.R Kd.string 9 w2 B (fun _ => True) v l := by
  obtain ⟨s3, L3, o3, c3, f3, p3, e3, t3, l3, m3, u3⟩ := (h.clean.after 0 0 0).open_
  refine (own_crash h.mine 0 0 0).mono ?_
  rintro r w1 ⟨rfl, fp1, hm, _⟩
  refine ⟨rfl, fun n => ?_⟩
  refine (own_open hG (hm.drewN n) s3 L3 _ _ _ _ o3 f3 p3).mono ?_
  rintro r w2 ⟨fp', lb', v, B, rfl, hm2, hl2, _, _, hv, _⟩
  have hl : ((l.take l.length).map bsL).map str = l := by rw [List.take_length, map_back]
  rw [hl] at hv
  rw [of_bs]
  refine ⟨lb', v, s3, L3, fp', B, rfl, hm2, hl2, e3.trans h.epoch, ?_, Kd.R_mono hv (fun _ _ => trivial)⟩
  rw [c3.n]
  simp
/-- From the new reel to the first base. -/
theorem all_first {w0 w : World} (hG : Gl w0) {b : Nat} {fp : List Nat} (h : MineL w0 w b (RS.new 4194304) fp) :
    Calls Tryd.prog 12 #[.pointer (some ⟨b, 0, none⟩)] w fun r w1 => ∃ lb v, r = .returned (.tuple #[.pointer (some ⟨lb, 0, none⟩), .string (str []), v, .int .i64 0]) ∧ ∃ s L fp', MineL w0 w1 b s fp' ∧ Lg w0 w1 b fp' lb L ∧ Clean s L [] [] ∧ L.epoch = 1 ∧ s.left = -1 ∧ s.room = 4194304 ∧ s.used ≤ 140 := by
  obtain ⟨s1, L1, o1, c1, f1, p1, e1, t1, r1, l1, m1, u1⟩ := new_open 4194304 (by omega) (by omega)
  refine (own_open hG h s1 L1 _ _ _ _ o1 f1 p1).mono ?_
  rintro r w2 ⟨fp', lb', v, B, rfl, hm2, hl2, _⟩
  exact ⟨lb', v, rfl, s1, L1, fp', hm2, hl2, c1, e1, l1, m1, u1⟩
theorem all_base {w0 w : World} (hG : Gl w0) {b lb : Nat} {fp : List Nat} {s : RS} {L : LS} (hm : MineL w0 w b s fp) (hl : Lg w0 w b fp lb L) (hc : Clean s L [] []) (he : L.epoch = 1) (hleft : s.left = -1) (hr : s.room = 4194304) (hu : s.used ≤ 140) (base : ByteArray) (l : List ByteArray) (hb : base.size ≤ 8000) :
    Calls Tryd.prog 15 #[.pointer (some ⟨lb, 0, none⟩), .string base] w fun r w' => r = .returned (.int .i64 0) ∧ ∃ s' L' fp', AllAt w0 w' base l 0 b lb s' L' fp' := by
  have zx := bs_size base
  have zx' : (bsL base).length = base.size := zx.symm
  rcases hc.base (bsL base) (by omega) (by rw [free_eq, hr]; omega) (by omega) with ⟨s', L', ha, hc', t1, t2, t3, t4, t5, t6⟩ | ⟨q, _⟩
  · refine (own_base hG hm hl hc.lok base (by omega) s' L' 0 ha).mono ?_
    rintro r w' ⟨rfl, fp', hm', hl', _⟩
    refine ⟨rfl, s', L', fp', hm', hl', ?_, by rw [t2, he]; rfl, t6 hleft, t4.trans hr, ?_⟩
    · simpa using hc'
    · have : tot l 0 = 0 := by simp [tot]
      omega
  · exact absurd hleft q
set_option maxHeartbeats 3200000 in
theorem all_core (w : World) (hG : Gl w) (A : Option Addr) (c : Nat) (l : List ByteArray) (hc : l.length ≤ c) (hC : Kd.C Kd.string w A l.length l) (hlen : l.length ≤ 140737488351232) (hsz : ∀ x ∈ l, x.size ≤ 140737488351232) (base : ByteArray) (hb : base.size ≤ 140737488351232) :
    Calls Tryd.prog 5 #[.slice A l.length c, .string base] w fun e w' => e = .returned (.bool true) ∧ Below w.heap.size w w' := by
  have LV := hd (live_at hG)
  have HG := hd hG
  have HC := hd hC
  have HZ := hd hsz
  have HCC := hd hc
  clear hG hC hsz hc
  go_enter Tryd.func5, Tryd.ntmps5
  go_wp2
  go_loop [5, 6] (fun n i => ∃ k : Nat, k ≤ l.length ∧ k ≤ 51 ∧ base.size + tot l k ≤ 281474976710656 ∧ i = .int .i64 k ∧ n = .int .i64 ((base.size + tot l k : Nat) : Int)) (fun _ i => 51 - (intOf i).toNat)
  case atStart => exact ⟨0, by omega, by omega, by simp [tot]; omega, rfl, by simp [tot]⟩
  case round =>
    obtain ⟨k, hk, h51, ht, rfl, rfl⟩ := hrel
    by_cases h1 : k < l.length
    · obtain ⟨x, hx⟩ : ∃ x, l[k]? = some x := ⟨_, List.getElem?_eq_getElem h1⟩
      obtain ⟨ad, rfl, hcell⟩ := strl_at HC.out (Below.refl _ _) k x hx
      have hsx := HZ.out x (List.mem_of_getElem? hx)
      have HT := hd (tot_succ l k x hx)
      clear hx
      obtain ⟨m, hm⟩ : ∃ m, base.size + tot l k = m := ⟨_, rfl⟩
      have HM := hd hm
      rw [hm] at ht ⊢
      by_cases h2 : k ≤ 50
      · by_cases h3 : m ≤ 8000
        · clear hm
          go_wp2
          go_round
          case rel => exact ⟨k + 1, by omega, by omega, by have := HT.out; have := HM.out; omega, by go_num, by rw [show base.size + tot l (k + 1) = m + x.size by have := HT.out; have := HM.out; omega]; go_num⟩
          case measure => simp [intOf]; omega
        · clear hm
          go_wp2_with (go_at_call 9; refine (LV.out _ (Below.refl _ _)).mono ?_; rintro e w1 ⟨rfl, hl⟩)
          all_goals
            go_ret
            exact ⟨rfl, hl⟩
      · clear hm
        have h52 : (50 : Int) < l.length := by omega
        go_wp2_with (go_at_call 9; refine (LV.out _ (Below.refl _ _)).mono ?_; rintro e w1 ⟨rfl, hl⟩)
        all_goals
          go_ret
          exact ⟨rfl, hl⟩
    · obtain rfl : k = l.length := by omega
      obtain ⟨m, hm⟩ : ∃ m, base.size + tot l l.length = m := ⟨_, rfl⟩
      have HM := hd hm
      rw [hm] at ht ⊢
      clear hm
      by_cases h4 : l.length ≤ 50 ∧ m ≤ 8000
      · obtain ⟨h50, h8⟩ := h4
        go_wp2_with (go_at_call 11; refine (num4_any _ _).mono ?_; rintro e w' ⟨rfl, rfl⟩)
        refine (own_new 4194304 w _ (Below.refl _ _) (by decide) (by decide)).mono ?_
        rintro e w1 ⟨b, fp1, rfl, hm, _⟩
        have HM1 := hd hm
        clear hm
        go_wp2_with (go_at_call 11; refine (num4_any _ _).mono ?_; rintro e w' ⟨rfl, rfl⟩)
        refine (all_first HG.out HM1.out).mono ?_
        rintro e w2 ⟨lb, v2, rfl, s2, L2, fp2, hm, hl, hcl, he, hlf, hr, hu⟩
        have HA2 := hd (all_base HG.out hm hl hcl he hlf hr hu base l (by have := HM.out; omega))
        clear hm hl hcl he hlf hr hu HM1
        go_wp2_with (go_at_call 11; refine (num4_any _ _).mono ?_; rintro e w' ⟨rfl, rfl⟩)
        refine HA2.out.mono ?_
        rintro e w3 ⟨rfl, s3, L3, fp3, ha⟩
        have HA3 := hd ha
        clear ha HA2
        go_wp2_with (go_at_call 11; refine (num4_any _ _).mono ?_; rintro e w' ⟨rfl, rfl⟩)
        go_loopw [13] (fun i wr => ∃ (k : Nat) (s : RS) (L : LS) (fp : List Nat), k ≤ l.length ∧ i = .int .i64 k ∧ Hd (AllAt w wr base l k b lb s L fp)) (fun i _ => l.length - (RowKit.intOf i).toNat)
        case atStart => exact ⟨0, s3, L3, fp3, by omega, rfl, HA3⟩
        case round =>
          obtain ⟨k, s, L, fp, hk, rfl, HA⟩ := hrel
          clear HA3
          by_cases hlt : k < l.length
          · obtain ⟨x, hx⟩ : ∃ x, l[k]? = some x := ⟨_, List.getElem?_eq_getElem hlt⟩
            obtain ⟨ad, rfl, hcell⟩ := strl_at HC.out HA.out.mine.below k x hx
            have HN := hd (all_next HG.out HA.out x hx h50 (by have := HM.out; omega))
            clear hx
            go_wp2_with (first | (go_at_call 11; refine (num4_any _ _).mono ?_; rintro e w' ⟨rfl, rfl⟩) | (go_at_call 14; refine HN.out.mono ?_; rintro e wn ⟨rfl, s', L', fp', ha⟩; have HA' := hd ha; have hrec := ha.recs (by omega); clear ha) | (go_at_call 22; refine (Tryd.ledRecords lb b s' L' fp' fp' _ _ (HA'.out.led.led HA'.out.mine)).mono ?_; rintro e wn2 ⟨rfl, rfl⟩))
            go_roundw
            case rel => exact ⟨k + 1, s', L', fp', by omega, by go_num, HA'⟩
            case measure => simp [RowKit.intOf]; omega
          · obtain rfl : k = l.length := by omega
            have HE := hd (all_end HG.out HA.out)
            clear HA
            go_wp2_with (go_at_call 11; refine (num4_any _ _).mono ?_; rintro e w' ⟨rfl, rfl⟩)
            refine HE.out.mono ?_
            rintro e w5 ⟨rfl, ho⟩
            have HO := hd (ho 0)
            clear ho HE
            go_wp2_with (go_at_call 11; refine (num4_any _ _).mono ?_; rintro e w' ⟨rfl, rfl⟩)
            refine HO.out.mono ?_
            rintro e w6 ⟨lb', v', s', L', fp', B, rfl, hm, hl, he, hr, hv⟩
            obtain ⟨A6, c6, rfl, hc6, hC6⟩ := Kd.R_reads hv
            have HS := hd (same_call (l0 := l) (l1 := l) ⟨rfl, hc6, hC6⟩ ⟨rfl, HCC.out, Kd.C_below HC.out hm.below⟩ (by omega))
            have HLD := hd (fun n => (hl.drewN n).led (hm.drewN n))
            have HB6 := hd hm.below
            clear hm hl hv hC6 hc6 HO
            go_wp2_with (first | (go_at_call 11; refine (num4_any _ _).mono ?_; rintro e w' ⟨rfl, rfl⟩) | (go_at_call 18; refine HS.out.mono ?_; rintro e w7 ⟨rfl, n7, rfl⟩) | (go_at_call 23; refine (Tryd.ledEpoch lb' b s' L' fp' fp' _ _ (HLD.out n7)).mono ?_; rintro e w' ⟨rfl, rfl⟩) | (go_at_call 22; refine (Tryd.ledRecords lb' b s' L' fp' fp' _ _ (HLD.out n7)).mono ?_; rintro e w' ⟨rfl, rfl⟩) | (go_at_call 9; refine (LV.out _ (HB6.out.trans ((below_drewN0 _ n7).mono HB6.out.size))).mono ?_; rintro e w1 ⟨rfl, hl⟩))
            go_ret
            exact ⟨rfl, hl⟩
      · have LVX : (50 : Int) < l.length ∨ (8000 : Int) < m := by omega
        clear h4
        rcases LVX with h5 | h5
        · go_wp2_with (go_at_call 9; refine (LV.out _ (Below.refl _ _)).mono ?_; rintro e w1 ⟨rfl, hl⟩)
          all_goals
            go_ret
            exact ⟨rfl, hl⟩
        · go_wp2_with (go_at_call 9; refine (LV.out _ (Below.refl _ _)).mono ?_; rintro e w1 ⟨rfl, hl⟩)
          all_goals
            go_ret
            exact ⟨rfl, hl⟩
/-- As the row wants it. -/
theorem all_walk {H : Type} {enc : TypeId × Value → H} (W : World) (hG : Gl W) (v : Value) (ho : ∃ A n c, v = .slice A n c) {d : DataW H} {p : List MemPlace} (h : DataW.Trod enc Tryd.prog W 0 (fun _ => true) true 31 v d p) (hl : Light Tryd.prog 31 d) (a1 : ByteArray) (w1 : a1.size ≤ 140737488351232) :
    Calls Tryd.prog 5 #[v, .string a1] W fun e w' => e = .returned (.bool true) ∧ Below W.heap.size W w' := by
  obtain ⟨A, l, c, rfl, hc, hC, hn, hz⟩ := open_strs ho h hl
  exact all_core W hG A c l hc hC hn hz a1 w1
end Go.Proofs.YtjmejamgbinigaaDoor
namespace Go.Proofs.YtjmejamgbinigaaDoor
set_option linter.unusedVariables false
set_option linter.unusedSimpArgs false
open Go.RowKit Go.Proofs.YtjmejamgbinigaaDoorW.PrintWords Go.Proofs.YtjmejamgbinigaaDoorW.PrintLast
/-- The base behind k bases. -/
def lastB (l : List ByteArray) (k : Nat) : Txt := if k = 0 then [] else bsL (l.getD (k - 1) ByteArray.empty)
/-- The ledger behind k bases, and m records "x". -/
structure BasesAt (w0 w : World) (l : List ByteArray) (k m : Nat) (b lb : Nat) (s : RS) (L : LS) (fp : List Nat) : Prop where
  mine : MineL w0 w b s fp
  led : Lg w0 w b fp lb L
  clean : Clean s L (lastB l k) (List.replicate m [120])
  epoch : L.epoch = k + 1
  left : s.left = -1
  room : s.room = 4194304
  used : s.used ≤ 140 + tot l k + 281 * k + 141 * m
theorem BasesAt.drewN {w0 w : World} {l : List ByteArray} {k m b lb : Nat} {s : RS} {L : LS} {fp : List Nat} (h : BasesAt w0 w l k m b lb s L fp) (n : Nat) : BasesAt w0 (w.drewN n) l k m b lb s L fp := ⟨h.mine.drewN n, h.led.drewN n, h.clean, h.epoch, h.left, h.room, h.used⟩
theorem bases_add {w0 w : World} {l : List ByteArray} {k b lb : Nat} {s : RS} {L : LS} {fp : List Nat} (hG : Gl w0) (h : BasesAt w0 w l k 0 b lb s L fp) (hk : k ≤ 50) (ht : tot l k ≤ 8000) :
    Calls Tryd.prog 14 #[.pointer (some ⟨lb, 0, none⟩), .string ⟨#[120]⟩] w fun r w' => r = .returned (.int .i64 0) ∧ ∃ s' L' fp', BasesAt w0 w' l k 1 b lb s' L' fp' := by
  have hu := h.used
  rcases h.clean.add [120] (by decide) (by rw [free_eq, h.room]; simp only [List.length_cons, List.length_nil]; omega) (by simp) with ⟨s', L', ha, hc, t1, t2, t3, t4, t5, t6⟩ | ⟨q, _⟩
  · refine (own_add hG h.mine h.led h.clean.lok ⟨#[120]⟩ (by decide) s' L' 0 ha).mono ?_
    rintro r w' ⟨rfl, fp', hm, hl, _⟩
    simp only [List.length_cons, List.length_nil] at t5
    exact ⟨rfl, s', L', fp', hm, hl, hc, t2.trans h.epoch, t6 h.left, t4.trans h.room, by omega⟩
  · exact absurd h.left q
theorem bases_base {w0 w : World} {l : List ByteArray} {k b lb : Nat} {s : RS} {L : LS} {fp : List Nat} (hG : Gl w0) (h : BasesAt w0 w l k 1 b lb s L fp) (x : ByteArray) (hx : l[k]? = some x) (h50 : l.length ≤ 50) (ht : tot l l.length ≤ 8000) :
    Calls Tryd.prog 15 #[.pointer (some ⟨lb, 0, none⟩), .string x] w fun r w' => r = .returned (.int .i64 0) ∧ ∃ s' L' fp', BasesAt w0 w' l (k + 1) 0 b lb s' L' fp' ∧ L'.recs = 0 := by
  have hk := (List.getElem?_eq_some_iff.1 hx).1
  have ts := tot_succ l k x hx
  have tm := tot_mono l (k + 1) l.length hk
  have hu := h.used
  have zx := bs_size x
  have zx' : (bsL x).length = x.size := zx.symm
  rcases h.clean.base (bsL x) (by omega) (by rw [free_eq, h.room]; omega) (by rw [h.epoch]; omega) with ⟨s', L', ha, hc, t1, t2, t3, t4, t5, t6⟩ | ⟨q, _⟩
  · refine (own_base hG h.mine h.led h.clean.lok x (by omega) s' L' 0 ha).mono ?_
    rintro r w' ⟨rfl, fp', hm, hl, _⟩
    refine ⟨rfl, s', L', fp', ⟨hm, hl, ?_, by rw [t2, h.epoch]; rfl, t6 h.left, t4.trans h.room, by omega⟩, t3⟩
    have : lastB l (k + 1) = bsL x := by
      unfold lastB
      rw [if_neg (by omega), show k + 1 - 1 = k by omega, List.getD_eq_getElem?_getD, hx]
      rfl
    rw [this]
    exact hc
  · exact absurd h.left q
theorem led_ne (e : Int) (b : Txt) (recs : List Txt) (he : inI64 e) (hb : b.length ≤ 524288) : led e b recs ≠ [] := by
  have := (laid_len kBase e b (by decide) he hb).2
  intro q
  unfold led at q
  have h2 : (laidL kBase e b).length = 0 := by rw [(List.append_eq_nil_iff.1 q).1]; rfl
  omega
/-- One tape has something, the other one nothing. -/
theorem Clean.tapes {s : RS} {L : LS} {b : Txt} {recs : List Txt} (h : Clean s L b recs) : ∃ x0 x1 : ByteArray, s.read 0 = (bsL x0, 0) ∧ s.read 1 = (bsL x1, 0) ∧ ((x0.toList = [] ∧ x1.toList.isEmpty = false) ∨ (x0.toList.isEmpty = false ∧ x1.toList = [])) := by
  have hne := led_ne L.epoch b recs (by have := h.fits.e0; have := h.fits.e1; unfold inI64; omega) h.fits.hb
  have r0 : s.read 0 = (tapeOf s 0, 0) := by unfold RS.read; rw [if_neg (by omega), h.dead]; rfl
  have r1 : s.read 1 = (tapeOf s 1, 0) := by unfold RS.read; rw [if_neg (by omega), h.dead]; rfl
  refine ⟨str (tapeOf s 0), str (tapeOf s 1), by rw [bs_of]; exact r0, by rw [bs_of]; exact r1, ?_⟩
  have e1 : tapeOf s L.tape = led L.epoch b recs := by unfold tapeOf; rw [h.full, h.rest, List.append_nil]
  have e2 : tapeOf s (1 - L.tape) = [] := by unfold tapeOf; rw [h.safe', h.rest']; rfl
  rw [bs_toList, bs_toList, bs_of, bs_of]
  rcases h.tape with q | q <;> rw [q] at e1 e2
  · right
    exact ⟨by rw [e1]; simpa using hne, e2⟩
  · left
    exact ⟨e2, by rw [e1]; simpa using hne⟩
theorem bases_first {w0 w : World} (hG : Gl w0) {b : Nat} {fp : List Nat} (h : MineL w0 w b (RS.new 4194304) fp) (l : List ByteArray) :
    Calls Tryd.prog 12 #[.pointer (some ⟨b, 0, none⟩)] w fun r w1 => ∃ lb v, r = .returned (.tuple #[.pointer (some ⟨lb, 0, none⟩), .string (str []), v, .int .i64 0]) ∧ ∃ s L fp', BasesAt w0 w1 l 0 0 b lb s L fp' := by
  refine (all_first hG h).mono ?_
  rintro r w2 ⟨lb, v, rfl, s, L, fp', hm, hl, hc, he, hlf, hr, hu⟩
  have : tot l 0 = 0 := by simp [tot]
  exact ⟨lb, v, rfl, s, L, fp', hm, hl, by simpa [lastB] using hc, by rw [he]; rfl, hlf, hr, by omega⟩
theorem bases_end {w0 w : World} {l : List ByteArray} {k b lb : Nat} {s : RS} {L : LS} {fp : List Nat} (hG : Gl w0) (h : BasesAt w0 w l k 0 b lb s L fp) :
    Calls Tryd.prog 17 #[.pointer (some ⟨b, 0, none⟩), .agg #[.int .i64 0, .int .i64 0, .int .u8 0]] w fun r w1 => r = .returned (.tuple #[]) ∧
      Calls Tryd.prog 12 #[.pointer (some ⟨b, 0, none⟩)] w1 fun r w2 => ∃ lb' A c, r = .returned (.tuple #[.pointer (some ⟨lb', 0, none⟩), .string (str (lastB l k)), .slice A 0 c, .int .i64 0]) ∧ Below w0.heap.size w0 w2 := by
  obtain ⟨s3, L3, o3, c3, f3, p3, e3, t3, l3, m3, u3⟩ := (h.clean.after 0 0 0).open_
  refine (own_crash h.mine 0 0 0).mono ?_
  rintro r w1 ⟨rfl, fp1, hm, _⟩
  refine ⟨rfl, ?_⟩
  refine (own_open hG hm s3 L3 _ _ _ _ o3 f3 p3).mono ?_
  rintro r w2 ⟨fp', lb', v, B, rfl, hm2, hl2, _, _, hv, _⟩
  obtain ⟨A, c, rfl⟩ := Kd.R_slice hv
  exact ⟨lb', A, c, rfl, hm2.below⟩
set_option maxHeartbeats 3200000 in
set_option maxRecDepth 100000 in
theorem bases_core (w : World) (hG : Gl w) (A : Option Addr) (c : Nat) (l : List ByteArray) (hc : l.length ≤ c) (hC : Kd.C Kd.string w A l.length l) (hlen : l.length ≤ 140737488351232) (hsz : ∀ x ∈ l, x.size ≤ 140737488351232) :
    Calls Tryd.prog 6 #[.slice A l.length c] w fun e w' => e = .returned (.bool true) ∧ Below w.heap.size w w' := by
  have LV := hd (live_at hG)
  have HG := hd hG
  have HC := hd hC
  have HZ := hd hsz
  clear hG hC hsz hc
  go_enter Tryd.func6, Tryd.ntmps6
  go_wp2
  go_loop [3, 4] (fun n i => ∃ k : Nat, k ≤ l.length ∧ k ≤ 51 ∧ tot l k ≤ 281474976710656 ∧ i = .int .i64 k ∧ n = .int .i64 ((tot l k : Nat) : Int)) (fun _ i => 51 - (intOf i).toNat)
  case atStart => exact ⟨0, by omega, by omega, by simp [tot], rfl, by simp [tot]⟩
  case round =>
    obtain ⟨k, hk, h51, ht, rfl, rfl⟩ := hrel
    by_cases h1 : k < l.length
    · obtain ⟨x, hx⟩ : ∃ x, l[k]? = some x := ⟨_, List.getElem?_eq_getElem h1⟩
      obtain ⟨ad, rfl, hcell⟩ := strl_at HC.out (Below.refl _ _) k x hx
      have hsx := HZ.out x (List.mem_of_getElem? hx)
      have HT := hd (tot_succ l k x hx)
      clear hx
      obtain ⟨m, hm⟩ : ∃ m, tot l k = m := ⟨_, rfl⟩
      have HM := hd hm
      rw [hm] at ht ⊢
      by_cases h2 : k ≤ 50
      · by_cases h3 : m ≤ 8000
        · clear hm
          go_wp2
          go_round
          case rel => exact ⟨k + 1, by omega, by omega, by have := HT.out; have := HM.out; omega, by go_num, by rw [show tot l (k + 1) = m + x.size by have := HT.out; have := HM.out; omega]; go_num⟩
          case measure => simp [intOf]; omega
        · clear hm
          go_wp2_with (go_at_call 9; refine (LV.out _ (Below.refl _ _)).mono ?_; rintro e w1 ⟨rfl, hl⟩)
          all_goals
            go_ret
            exact ⟨rfl, hl⟩
      · clear hm
        have h52 : (50 : Int) < l.length := by omega
        go_wp2_with (go_at_call 9; refine (LV.out _ (Below.refl _ _)).mono ?_; rintro e w1 ⟨rfl, hl⟩)
        all_goals
          go_ret
          exact ⟨rfl, hl⟩
    · obtain rfl : k = l.length := by omega
      obtain ⟨m, hm⟩ : ∃ m, tot l l.length = m := ⟨_, rfl⟩
      have HM := hd hm
      rw [hm] at ht ⊢
      clear hm
      by_cases h4 : l.length ≠ 0 ∧ l.length ≤ 50 ∧ m ≤ 8000
      · obtain ⟨h0, h50, h8⟩ := h4
        have h0b : ((l.length : Int) == 0) = false := beq_eq_false_iff_ne.2 (by omega)
        go_wp2_with (go_at_call 11; refine (num4_any _ _).mono ?_; rintro e w' ⟨rfl, rfl⟩)
        refine (own_new 4194304 w _ (Below.refl _ _) (by decide) (by decide)).mono ?_
        rintro e w1 ⟨b, fp1, rfl, hm, _⟩
        have HM1 := hd hm
        clear hm
        go_wp2_with (go_at_call 11; refine (num4_any _ _).mono ?_; rintro e w' ⟨rfl, rfl⟩)
        refine (bases_first HG.out HM1.out l).mono ?_
        rintro e w3 ⟨lb, v2, rfl, s3, L3, fp3, ha⟩
        have HA3 := hd ha
        clear ha HM1
        go_wp2_with (go_at_call 11; refine (num4_any _ _).mono ?_; rintro e w' ⟨rfl, rfl⟩)
        go_loopw [11] (fun i wr => ∃ (k : Nat) (s : RS) (L : LS) (fp : List Nat), k ≤ l.length ∧ i = .int .i64 k ∧ Hd (BasesAt w wr l k 0 b lb s L fp)) (fun i _ => l.length - (RowKit.intOf i).toNat)
        case atStart => exact ⟨0, s3, L3, fp3, by omega, rfl, HA3⟩
        case round =>
          obtain ⟨k, s, L, fp, hk, rfl, HA⟩ := hrel
          clear HA3
          by_cases hlt : k < l.length
          · obtain ⟨x, hx⟩ : ∃ x, l[k]? = some x := ⟨_, List.getElem?_eq_getElem hlt⟩
            have HX := hd hx
            have HN := hd (bases_add HG.out HA.out (by omega) (by have := HM.out; have := tot_mono l k l.length (by omega); omega))
            clear hx HA
            go_wp2_with (go_at_call 11; refine (num4_any _ _).mono ?_; rintro e w' ⟨rfl, rfl⟩)
            refine HN.out.mono ?_
            rintro e w5 ⟨rfl, s5, L5, fp5, ha⟩
            have HB5 := hd (bases_base HG.out ha x HX.out h50 (by have := HM.out; omega))
            obtain ⟨ad, rfl, hcell⟩ := strl_at HC.out ha.mine.below k x HX.out
            clear ha HN
            go_wp2_with (go_at_call 11; refine (num4_any _ _).mono ?_; rintro e w' ⟨rfl, rfl⟩)
            refine HB5.out.mono ?_
            rintro e w6 ⟨rfl, s6, L6, fp6, ha, hrec⟩
            have HA6 := hd ha
            have hep := ha.epoch
            obtain ⟨x0, x1, hr0, hr1, hx⟩ := ha.clean.tapes
            have R0 : Hd (∀ w7, MineL w w7 b s6 fp6 → Calls Tryd.prog 24 #[.pointer (some ⟨b, 0, none⟩), .int .i64 0] w7 fun r w8 => r = .returned (.tuple #[.string x0, .int .i64 0]) ∧ Drawn w7 w8) := hd fun w7 hm => by
              refine (own_read hm 0).mono ?_
              rintro r w8 ⟨rfl, _, hdr⟩
              rw [hr0, of_bs]
              exact ⟨rfl, hdr⟩
            have R1 : Hd (∀ w7, MineL w w7 b s6 fp6 → Calls Tryd.prog 24 #[.pointer (some ⟨b, 0, none⟩), .int .i64 1] w7 fun r w8 => r = .returned (.tuple #[.string x1, .int .i64 0]) ∧ Drawn w7 w8) := hd fun w7 hm => by
              refine (own_read hm 1).mono ?_
              rintro r w8 ⟨rfl, _, hdr⟩
              rw [hr1, of_bs]
              exact ⟨rfl, hdr⟩
            have HX2 := hd hx
            clear ha hr0 hr1 hx HB5
            go_wp2_with (first | (go_at_call 11; refine (num4_any _ _).mono ?_; rintro e w' ⟨rfl, rfl⟩) | (go_at_call 22; refine (Tryd.ledRecords lb b s6 L6 fp6 fp6 _ _ (HA6.out.led.led HA6.out.mine)).mono ?_; rintro e w' ⟨rfl, rfl⟩) | (go_at_call 23; refine (Tryd.ledEpoch lb b s6 L6 fp6 fp6 _ _ (HA6.out.led.led HA6.out.mine)).mono ?_; rintro e w' ⟨rfl, rfl⟩))
            refine (R0.out _ HA6.out.mine).mono ?_
            rintro r w7 ⟨rfl, n7, rfl⟩
            go_wp2_with (fail)
            refine (R1.out _ (HA6.out.mine.drewN n7)).mono ?_
            rintro r w8 ⟨rfl, n8, rfl⟩
            rcases HX2.out with ⟨e1, e2⟩ | ⟨e1, e2⟩
            · go_wp2_with (fail)
              exact ⟨⟨k + 1, s6, L6, fp6, by omega, by go_num, hd (HA6.out.drewN _)⟩, by simp [RowKit.intOf]; omega⟩
            · go_wp2_with (fail)
              exact ⟨⟨k + 1, s6, L6, fp6, by omega, by go_num, hd (HA6.out.drewN _)⟩, by simp [RowKit.intOf]; omega⟩
          · obtain rfl : k = l.length := by omega
            have HE := hd (bases_end HG.out HA.out)
            have hlast : ∃ x, l[l.length - 1]? = some x := ⟨_, List.getElem?_eq_getElem (by omega)⟩
            obtain ⟨x, hx⟩ := hlast
            have hlb : str (lastB l l.length) = x := by
              unfold lastB
              rw [if_neg h0, List.getD_eq_getElem?_getD, hx]
              exact of_bs x
            have HX := hd hx
            rw [hlb] at HE
            clear HA hx hlb
            go_wp2_with (go_at_call 11; refine (num4_any _ _).mono ?_; rintro e w' ⟨rfl, rfl⟩)
            refine HE.out.mono ?_
            rintro e w5 ⟨rfl, ho⟩
            have HO := hd ho
            clear ho HE
            go_wp2_with (go_at_call 11; refine (num4_any _ _).mono ?_; rintro e w' ⟨rfl, rfl⟩)
            refine HO.out.mono ?_
            rintro e w6 ⟨lb', A6, c6, rfl, hb6⟩
            have HB6 := hd hb6
            obtain ⟨ad, rfl, hcell⟩ := strl_at HC.out hb6 (l.length - 1) x HX.out
            clear hb6 HO
            go_wp2_with (first | (go_at_call 11; refine (num4_any _ _).mono ?_; rintro e w' ⟨rfl, rfl⟩) | (go_at_call 9; refine (LV.out _ HB6.out).mono ?_; rintro e w1 ⟨rfl, hl⟩))
            go_ret
            exact ⟨rfl, hl⟩
      · have LVX : l.length = 0 ∨ (50 : Int) < l.length ∨ (8000 : Int) < m := by omega
        clear h4
        rcases LVX with h5 | h5 | h5
        all_goals
          try have h0b : ((l.length : Int) == 0) = true := beq_iff_eq.2 (by omega)
          go_wp2_with (go_at_call 9; refine (LV.out _ (Below.refl _ _)).mono ?_; rintro e w1 ⟨rfl, hl⟩)
          all_goals
            go_ret
            exact ⟨rfl, hl⟩
/-- As the row wants it. -/
theorem bases_walk {H : Type} {enc : TypeId × Value → H} (W : World) (hG : Gl W) (v : Value) (ho : ∃ A n c, v = .slice A n c) {d : DataW H} {p : List MemPlace} (h : DataW.Trod enc Tryd.prog W 0 (fun _ => true) true 31 v d p) (hl : Light Tryd.prog 31 d) :
    Calls Tryd.prog 6 #[v] W fun e w' => e = .returned (.bool true) ∧ Below W.heap.size W w' := by
  obtain ⟨A, l, c, rfl, hc, hC, hn, hz⟩ := open_strs ho h hl
  exact bases_core W hG A c l hc hC hn hz
end Go.Proofs.YtjmejamgbinigaaDoor
