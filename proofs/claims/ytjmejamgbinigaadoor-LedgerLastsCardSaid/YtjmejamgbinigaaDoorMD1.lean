/-
  Lemmas, joined of the texts Acts4 Small4 WLAll LLast WLLasts.
-/
import Derived.Test.YtjmejamgbinigaaDoorMB17
namespace Go.Proofs.YtjmejamgbinigaaDoor
set_option linter.unusedVariables false
set_option linter.unusedSimpArgs false
open Go.RowKit

structure Act where
  kind : Int
  s : ByteArray
  n : Int
  k0 : Int
  k1 : Int
  turn : UInt8

namespace Act
def cells (a : Act) : List Value := [.int .i64 a.kind, .string a.s, .int .i64 a.n, .int .i64 a.k0, .int .i64 a.k1, .int .u8 a.turn.toNat]
structure Ok (a : Act) : Prop where
  n0 : -9223372036854775808 ≤ a.n
  n1 : a.n ≤ 9223372036854775807
  s : a.s.size ≤ 140737488351232
end Act
instance : Inhabited Act := ⟨⟨0, ⟨#[]⟩, 0, 0, 0, 0⟩⟩

/-- Acts in memory: six cells each. -/
structure ActsAt (w : World) (A : Option Addr) (l : List Act) : Prop where
  ok : ∀ a ∈ l, a.Ok
  addr : l ≠ [] → ∃ b off, A = some ⟨b, off, none⟩
  cell : ∀ (b off i j : Nat) (a : Act) (v : Value), A = some ⟨b, off, none⟩ → l[i]? = some a → a.cells[j]? = some v → w.cell? ⟨b, off + (i * 6 + j), none⟩ = some v

theorem ActsAt.below {w w' : World} {A : Option Addr} {l : List Act} (h : ActsAt w A l) (hb : Below w.heap.size w w') : ActsAt w' A l :=
  ⟨h.ok, h.addr, fun b off i j a v hA hi hj => by
    have := h.cell b off i j a v hA hi hj
    exact (hb.cell (World.block_lt_of_cell? w _ this)).trans this⟩

theorem i64_bd {n : Int} (h : (Lit.int .i64 n).wf = true) : -9223372036854775808 ≤ n ∧ n ≤ 9223372036854775807 := by
  simpa [Lit.wf, IntKind.min, IntKind.max, IntKind.signed, IntKind.bits] using h
theorem u8_of' (x : Int) (h : (Lit.int .u8 x).wf = true) : ∃ y : UInt8, x = y.toNat := by
  have hb : 0 ≤ x ∧ x ≤ 255 := by simpa [Lit.wf, IntKind.min, IntKind.max, IntKind.signed, IntKind.bits] using h
  refine ⟨UInt8.ofNat x.toNat, ?_⟩
  simp
  omega

section
variable {H : Type} {enc : TypeId × Value → H} {w : World} {spare : Nat → Bool} {held : Bool}

theorem act_leaves : leaves Tryd.prog 4 38 = [.int .i64, .str, .int .i64, .int .i64, .int .i64, .int .u8] := by kernel_rfl
theorem act_flat : flatB Tryd.prog 4 38 = true := by kernel_rfl
theorem act_cells : Tryd.prog.cellsOf 38 = 6 := by kernel_rfl

theorem act_of {cs : List Value} (h : LeafAll enc Tryd.prog w 0 spare held [.int .i64, .str, .int .i64, .int .i64, .int .i64, .int .u8] cs) : ∃ a : Act, cs = a.cells ∧ a.Ok := by
  rcases cs with _ | ⟨c0, _ | ⟨c1, _ | ⟨c2, _ | ⟨c3, _ | ⟨c4, _ | ⟨c5, _ | ⟨c6, r⟩⟩⟩⟩⟩⟩⟩
  all_goals try (have := h.length; simp at this; done)
  obtain ⟨⟨x0, rfl, _⟩, ⟨x2, rfl, w2⟩, ⟨x3, rfl, w3⟩, ⟨x4, rfl, _⟩, ⟨x5, rfl, _⟩, ⟨x6, rfl, w6⟩, _⟩ := h
  obtain ⟨y, rfl⟩ := u8_of' x6 w6
  have b := i64_bd w3
  exact ⟨⟨x0, x2, x3, x4, x5, y⟩, rfl, ⟨b.1, b.2, w2⟩⟩

set_option maxRecDepth 100000 in
theorem open_acts {v : Value} {d : DataW H} {p : List MemPlace} (hv0 : ∃ A n c, v = .slice A n c) (h : DataW.Trod enc Tryd.prog w 0 spare held 22 v d p) (hl : Light Tryd.prog 22 d) :
    ∃ A l c, v = .slice A l.length c ∧ l.length ≤ 140737488351232 ∧ ActsAt w A l := by
  rcases open_rows 4 6 Tryd.underlying22 act_cells act_flat hv0 h hl with rfl | ⟨a, len, cap, C, rfl, _, _, hlen, hC⟩
  · exact ⟨none, [], 0, rfl, by simp, ⟨by simp, fun h => absurd rfl h, fun b off i j a v hA => by cases hA⟩⟩
  · rw [act_leaves] at hC
    obtain ⟨F, hF⟩ := Deep.choose_lt (α := Act) (n := len) (p := fun i x => C i = x.cells ∧ x.Ok) (fun i hi => act_of (hC i hi).1)
    have hb : Tryd.prog.bytesOf 38 = 56 := by kernel_rfl
    rw [hb] at hlen
    refine ⟨some a, (List.range len).map F, cap, by simp, by simp; omega, ⟨?_, ?_, ?_⟩⟩
    · intro x hx
      obtain ⟨i, hi, rfl⟩ := List.mem_map.1 hx
      exact (hF i (List.mem_range.1 hi)).2
    · intro hne
      have h0 : 0 < len := by
        rcases Nat.eq_zero_or_pos len with h0 | h0
        · subst h0; exact absurd rfl hne
        · exact h0
      have := (hC 0 h0).2.2 0 (by omega)
      rw [(hF 0 h0).1] at this
      have ha := plain_addr (a := a.add (0 * 6 + 0)) (this.trans rfl)
      have h00 : a.add (0 * 6 + 0) = a := by unfold Addr.add; simp
      rw [h00] at ha
      exact ⟨a.block, a.off, by rw [← ha]⟩
    · intro b off i j x v hA hi hj
      injection hA with hA
      subst hA
      have hil : i < len := by
        have := (List.getElem?_eq_some_iff.1 hi).1
        simpa using this
      have hx : F i = x := by simpa [hil] using hi
      have hj7 : j < 6 := by
        have := (List.getElem?_eq_some_iff.1 hj).1
        simpa [Act.cells] using this
      have := (hC i hil).2.2 j hj7
      rw [(hF i hil).1, hx, add_off, hj] at this
      exact this
end
end Go.Proofs.YtjmejamgbinigaaDoor
namespace Go.Proofs.YtjmejamgbinigaaDoor
set_option linter.unusedVariables false
set_option linter.unusedSimpArgs false
open Go.RowKit

def totA (l : List Act) (k : Nat) : Nat := ((l.take k).map (·.s.size)).sum
theorem totA_succ (l : List Act) (k : Nat) (a : Act) (h : l[k]? = some a) : totA l (k + 1) = totA l k + a.s.size := by
  unfold totA
  rw [List.take_add_one, h]
  simp
theorem totA_le (l : List Act) (k j : Nat) (a : Act) (h : l[j]? = some a) (hj : j < k) : a.s.size ≤ totA l k := by
  induction k with
  | zero => omega
  | succ k ih =>
    rcases Nat.lt_or_ge j k with h1 | h1
    · have := ih h1
      cases hk : l[k]? with
      | none =>
        unfold totA at *
        rw [List.take_add_one, hk]
        simpa using this
      | some b => rw [totA_succ l k b hk]; omega
    · obtain rfl : j = k := by omega
      rw [totA_succ l j a h]; omega

theorem totA_mono (l : List Act) (j k : Nat) (h : j ≤ k) : totA l j ≤ totA l k := by
  induction k with
  | zero => rw [show j = 0 by omega]; exact Nat.le_refl _
  | succ k ih =>
    rcases Nat.lt_or_ge j (k + 1) with h1 | h1
    · refine Nat.le_trans (ih (by omega)) ?_
      cases hk : l[k]? with
      | none => unfold totA; rw [List.take_add_one, hk]; simp
      | some b => rw [totA_succ l k b hk]; omega
    · rw [show j = k + 1 by omega]; exact Nat.le_refl _
def SmallPost (l : List Act) (w : World) (e : Ending) (w' : World) : Prop := ∃ b, e = .returned (.bool b) ∧ (b = true → l.length ≤ 50 ∧ totA l l.length ≤ 8000) ∧ w = w'

set_option maxHeartbeats 800000 in
theorem small_any (A : Option Addr) (l : List Act) (cap : Nat) (w : World) (hA : ActsAt w A l) (hlen : l.length ≤ 140737488351232) :
    Calls Tryd.prog 8 #[.slice A l.length cap] w (SmallPost l w) := by
  have HA := hd hA
  clear hA
  go_enter Tryd.func8, Tryd.ntmps8
  go_wp2
  go_loop [3, 4] (fun n i => ∃ k : Nat, k ≤ l.length ∧ k ≤ 51 ∧ totA l k ≤ 140737488400000 ∧ i = .int .i64 k ∧ n = .int .i64 (totA l k)) (fun _ i => 51 - (intOf i).toNat)
  case atStart => exact ⟨0, by omega, by omega, by simp [totA], rfl, rfl⟩
  case round =>
    obtain ⟨k, hk, h61, ht, rfl, rfl⟩ := hrel
    by_cases hlt : k < l.length ∧ k ≤ 50 ∧ totA l k ≤ 8000
    · obtain ⟨h1, h2, h3⟩ := hlt
      obtain ⟨b, off, rfl⟩ := HA.out.addr (by intro h; rw [h] at h1; simp at h1)
      obtain ⟨a, ha⟩ : ∃ a, l[k]? = some a := ⟨_, List.getElem?_eq_getElem h1⟩
      have hc : w.cell? ⟨b, off + k * 6 + 1, none⟩ = some (.string a.s) := by
        have := HA.out.cell b off k 1 a _ rfl ha rfl
        rwa [← Nat.add_assoc] at this
      have hs := (HA.out.ok a (List.mem_of_getElem? ha)).s
      have HT := hd (totA_succ l k a ha)
      clear ha
      generalize totA l k = m at *
      go_wp2
      go_round
      case rel => exact ⟨k + 1, by omega, by omega, by rw [HT.out]; omega, by go_num, by rw [HT.out]; go_num⟩
      case measure => simp [intOf]; omega
    · by_cases h1 : k < l.length
      · by_cases h2 : k ≤ 50
        · have h3 : ¬ totA l k ≤ 8000 := fun h => hlt ⟨h1, h2, h⟩
          clear hlt
          generalize totA l k = m at *
          go_wp2
          all_goals
            go_ret
            exact ⟨_, rfl, fun h => by simp at h <;> omega, rfl⟩
        · clear hlt
          generalize totA l k = m at *
          go_wp2
          all_goals
            go_ret
            exact ⟨_, rfl, fun h => by simp at h <;> omega, rfl⟩
      · obtain rfl : k = l.length := by omega
        have HT := hd (fun j a (hj : l[j]? = some a) => totA_le l l.length j a hj (List.getElem?_eq_some_iff.1 hj).1)
        clear hlt
        obtain ⟨m, hm⟩ : ∃ m, totA l l.length = m := ⟨_, rfl⟩
        have HM := hd hm
        rw [hm] at ht ⊢
        clear hm HT
        by_cases h6 : l.length ≤ 50
        · by_cases h7 : m ≤ 8000
          · go_wp2
            go_ret
            exact ⟨_, rfl, fun _ => ⟨h6, by have := HM.out; omega⟩, rfl⟩
          · go_wp2
            go_ret
            exact ⟨_, rfl, fun h => by simp at h <;> omega, rfl⟩
        · go_wp2
          all_goals
            go_ret
            exact ⟨_, rfl, fun h => by simp at h <;> omega, rfl⟩
end Go.Proofs.YtjmejamgbinigaaDoor
namespace Go.Proofs.YtjmejamgbinigaaDoor
set_option linter.unusedVariables false
set_option linter.unusedSimpArgs false
open Go.RowKit Go.Proofs.YtjmejamgbinigaaDoorW.PrintWords Go.Proofs.YtjmejamgbinigaaDoorW.PrintLast
/-- The live law at a law's end. -/
def LiveAt (w : World) : Prop := ∀ w', Below w.heap.size w w' → Calls Tryd.prog 9 #[] w' fun e w2 => e = .returned (.bool true) ∧ Below w.heap.size w w2
theorem live_at {w : World} (hG : Gl w) : LiveAt w := fun w' hb => live4_any w w' hG hb
/-- The ledger behind k records. -/
structure AllAt (w0 w : World) (base : ByteArray) (l : List ByteArray) (k : Nat) (b lb : Nat) (s : RS) (L : LS) (fp : List Nat) : Prop where
  mine : MineL w0 w b s fp
  led : Lg w0 w b fp lb L
  clean : Clean s L (bsL base) ((l.take k).map bsL)
  epoch : L.epoch = 2
  left : s.left = -1
  room : s.room = 4194304
  used : s.used ≤ 280 + base.size + tot l k + 140 * k
theorem AllAt.recs {w0 w : World} {base : ByteArray} {l : List ByteArray} {k b lb : Nat} {s : RS} {L : LS} {fp : List Nat} (h : AllAt w0 w base l k b lb s L fp) (hk : k ≤ l.length) : L.recs = k := by
  rw [h.clean.n]
  simp
  omega
theorem all_next {w0 w : World} {base : ByteArray} {l : List ByteArray} {k b lb : Nat} {s : RS} {L : LS} {fp : List Nat} (hG : Gl w0) (h : AllAt w0 w base l k b lb s L fp) (x : ByteArray) (hx : l[k]? = some x) (h50 : l.length ≤ 50) (ht : base.size + tot l l.length ≤ 8000) :
    Calls Tryd.prog 14 #[.pointer (some ⟨lb, 0, none⟩), .string x] w fun r w' => r = .returned (.int .i64 0) ∧ ∃ s' L' fp', AllAt w0 w' base l (k + 1) b lb s' L' fp' := by
  have hk := (List.getElem?_eq_some_iff.1 hx).1
  have ts := tot_succ l k x hx
  have tm := tot_mono l (k + 1) l.length hk
  have hu := h.used
  have zx := bs_size x
  have zx' : (bsL x).length = x.size := zx.symm
  rcases h.clean.add (bsL x) (by omega) (by rw [free_eq, h.room]; omega) (by simp; omega) with ⟨s', L', ha, hc, t1, t2, t3, t4, t5, t6⟩ | ⟨q, _⟩
  · refine (own_add hG h.mine h.led h.clean.lok x (by omega) s' L' 0 ha).mono ?_
    rintro r w' ⟨rfl, fp', hm, hl, _⟩
    refine ⟨rfl, s', L', fp', hm, hl, ?_, t2.trans h.epoch, t6 h.left, t4.trans h.room, by omega⟩
    rw [take_map_succ l k x hx]
    exact hc
  · exact absurd h.left q
theorem all_end {w0 w : World} {base : ByteArray} {l : List ByteArray} {b lb : Nat} {s : RS} {L : LS} {fp : List Nat} (hG : Gl w0) (h : AllAt w0 w base l l.length b lb s L fp) :
    Calls Tryd.prog 17 #[.pointer (some ⟨b, 0, none⟩), .agg #[.int .i64 0, .int .i64 0, .int .u8 0]] w fun r w1 => r = .returned (.tuple #[]) ∧
      ∀ n, Calls Tryd.prog 12 #[.pointer (some ⟨b, 0, none⟩)] (w1.drewN n) fun r w2 => ∃ lb' v s' L' fp' B, r = .returned (.tuple #[.pointer (some ⟨lb', 0, none⟩), .string base, v, .int .i64 0]) ∧ MineL w0 w2 b s' fp' ∧ Lg w0 w2 b fp' lb' L' ∧ L'.epoch = 2 ∧ L'.recs = l.length ∧
        Kd.R Kd.string 9 w2 B (fun _ => True) v l := by
  obtain ⟨s3, L3, o3, c3, f3, p3, e3, t3, l3, m3, u3⟩ := (h.clean.after 0 0 0).open_
  refine (own_crash h.mine 0 0 0).mono ?_
  rintro r w1 ⟨rfl, fp1, hm, _⟩
  refine ⟨rfl, fun n => ?_⟩
  refine (own_open hG (hm.drewN n) s3 L3 _ _ _ _ o3 f3 p3).mono ?_
  rintro r w2 ⟨fp', lb', v, B, rfl, hm2, hl2, _, _, hv, _⟩
  have hl : ((l.take l.length).map bsL).map str = l := by rw [List.take_length, map_back]
  rw [hl] at hv
  rw [of_bs]
  refine ⟨lb', v, s3, L3, fp', B, rfl, hm2, hl2, e3.trans h.epoch, ?_, Kd.R_mono hv (fun _ _ => trivial)⟩
  rw [c3.n]
  simp
/-- From the new reel to the first base. -/
theorem all_first {w0 w : World} (hG : Gl w0) {b : Nat} {fp : List Nat} (h : MineL w0 w b (RS.new 4194304) fp) :
    Calls Tryd.prog 12 #[.pointer (some ⟨b, 0, none⟩)] w fun r w1 => ∃ lb v, r = .returned (.tuple #[.pointer (some ⟨lb, 0, none⟩), .string (str []), v, .int .i64 0]) ∧ ∃ s L fp', MineL w0 w1 b s fp' ∧ Lg w0 w1 b fp' lb L ∧ Clean s L [] [] ∧ L.epoch = 1 ∧ s.left = -1 ∧ s.room = 4194304 ∧ s.used ≤ 140 := by
  obtain ⟨s1, L1, o1, c1, f1, p1, e1, t1, r1, l1, m1, u1⟩ := new_open 4194304 (by omega) (by omega)
  refine (own_open hG h s1 L1 _ _ _ _ o1 f1 p1).mono ?_
  rintro r w2 ⟨fp', lb', v, B, rfl, hm2, hl2, _⟩
  exact ⟨lb', v, rfl, s1, L1, fp', hm2, hl2, c1, e1, l1, m1, u1⟩
theorem all_base {w0 w : World} (hG : Gl w0) {b lb : Nat} {fp : List Nat} {s : RS} {L : LS} (hm : MineL w0 w b s fp) (hl : Lg w0 w b fp lb L) (hc : Clean s L [] []) (he : L.epoch = 1) (hleft : s.left = -1) (hr : s.room = 4194304) (hu : s.used ≤ 140) (base : ByteArray) (l : List ByteArray) (hb : base.size ≤ 8000) :
    Calls Tryd.prog 15 #[.pointer (some ⟨lb, 0, none⟩), .string base] w fun r w' => r = .returned (.int .i64 0) ∧ ∃ s' L' fp', AllAt w0 w' base l 0 b lb s' L' fp' := by
  have zx := bs_size base
  have zx' : (bsL base).length = base.size := zx.symm
  rcases hc.base (bsL base) (by omega) (by rw [free_eq, hr]; omega) (by omega) with ⟨s', L', ha, hc', t1, t2, t3, t4, t5, t6⟩ | ⟨q, _⟩
  · refine (own_base hG hm hl hc.lok base (by omega) s' L' 0 ha).mono ?_
    rintro r w' ⟨rfl, fp', hm', hl', _⟩
    refine ⟨rfl, s', L', fp', hm', hl', ?_, by rw [t2, he]; rfl, t6 hleft, t4.trans hr, ?_⟩
    · simpa using hc'
    · have : tot l 0 = 0 := by simp [tot]
      omega
  · exact absurd hleft q
set_option maxHeartbeats 3200000 in
theorem all_core (w : World) (hG : Gl w) (A : Option Addr) (c : Nat) (l : List ByteArray) (hc : l.length ≤ c) (hC : Kd.C Kd.string w A l.length l) (hlen : l.length ≤ 140737488351232) (hsz : ∀ x ∈ l, x.size ≤ 140737488351232) (base : ByteArray) (hb : base.size ≤ 140737488351232) :
    Calls Tryd.prog 5 #[.slice A l.length c, .string base] w fun e w' => e = .returned (.bool true) ∧ Below w.heap.size w w' := by
  have LV := hd (live_at hG)
  have HG := hd hG
  have HC := hd hC
  have HZ := hd hsz
  have HCC := hd hc
  clear hG hC hsz hc
  go_enter Tryd.func5, Tryd.ntmps5
  go_wp2
  go_loop [5, 6] (fun n i => ∃ k : Nat, k ≤ l.length ∧ k ≤ 51 ∧ base.size + tot l k ≤ 281474976710656 ∧ i = .int .i64 k ∧ n = .int .i64 ((base.size + tot l k : Nat) : Int)) (fun _ i => 51 - (intOf i).toNat)
  case atStart => exact ⟨0, by omega, by omega, by simp [tot]; omega, rfl, by simp [tot]⟩
  case round =>
    obtain ⟨k, hk, h51, ht, rfl, rfl⟩ := hrel
    by_cases h1 : k < l.length
    · obtain ⟨x, hx⟩ : ∃ x, l[k]? = some x := ⟨_, List.getElem?_eq_getElem h1⟩
      obtain ⟨ad, rfl, hcell⟩ := strl_at HC.out (Below.refl _ _) k x hx
      have hsx := HZ.out x (List.mem_of_getElem? hx)
      have HT := hd (tot_succ l k x hx)
      clear hx
      obtain ⟨m, hm⟩ : ∃ m, base.size + tot l k = m := ⟨_, rfl⟩
      have HM := hd hm
      rw [hm] at ht ⊢
      by_cases h2 : k ≤ 50
      · by_cases h3 : m ≤ 8000
        · clear hm
          go_wp2
          go_round
          case rel => exact ⟨k + 1, by omega, by omega, by have := HT.out; have := HM.out; omega, by go_num, by rw [show base.size + tot l (k + 1) = m + x.size by have := HT.out; have := HM.out; omega]; go_num⟩
          case measure => simp [intOf]; omega
        · clear hm
          go_wp2_with (go_at_call 9; refine (LV.out _ (Below.refl _ _)).mono ?_; rintro e w1 ⟨rfl, hl⟩)
          all_goals
            go_ret
            exact ⟨rfl, hl⟩
      · clear hm
        have h52 : (50 : Int) < l.length := by omega
        go_wp2_with (go_at_call 9; refine (LV.out _ (Below.refl _ _)).mono ?_; rintro e w1 ⟨rfl, hl⟩)
        all_goals
          go_ret
          exact ⟨rfl, hl⟩
    · obtain rfl : k = l.length := by omega
      obtain ⟨m, hm⟩ : ∃ m, base.size + tot l l.length = m := ⟨_, rfl⟩
      have HM := hd hm
      rw [hm] at ht ⊢
      clear hm
      by_cases h4 : l.length ≤ 50 ∧ m ≤ 8000
      · obtain ⟨h50, h8⟩ := h4
        go_wp2_with (go_at_call 11; refine (num4_any _ _).mono ?_; rintro e w' ⟨rfl, rfl⟩)
        refine (own_new 4194304 w _ (Below.refl _ _) (by decide) (by decide)).mono ?_
        rintro e w1 ⟨b, fp1, rfl, hm, _⟩
        have HM1 := hd hm
        clear hm
        go_wp2_with (go_at_call 11; refine (num4_any _ _).mono ?_; rintro e w' ⟨rfl, rfl⟩)
        refine (all_first HG.out HM1.out).mono ?_
        rintro e w2 ⟨lb, v2, rfl, s2, L2, fp2, hm, hl, hcl, he, hlf, hr, hu⟩
        have HA2 := hd (all_base HG.out hm hl hcl he hlf hr hu base l (by have := HM.out; omega))
        clear hm hl hcl he hlf hr hu HM1
        go_wp2_with (go_at_call 11; refine (num4_any _ _).mono ?_; rintro e w' ⟨rfl, rfl⟩)
        refine HA2.out.mono ?_
        rintro e w3 ⟨rfl, s3, L3, fp3, ha⟩
        have HA3 := hd ha
        clear ha HA2
        go_wp2_with (go_at_call 11; refine (num4_any _ _).mono ?_; rintro e w' ⟨rfl, rfl⟩)
        go_loopw [13] (fun i wr => ∃ (k : Nat) (s : RS) (L : LS) (fp : List Nat), k ≤ l.length ∧ i = .int .i64 k ∧ Hd (AllAt w wr base l k b lb s L fp)) (fun i _ => l.length - (RowKit.intOf i).toNat)
        case atStart => exact ⟨0, s3, L3, fp3, by omega, rfl, HA3⟩
        case round =>
          obtain ⟨k, s, L, fp, hk, rfl, HA⟩ := hrel
          clear HA3
          by_cases hlt : k < l.length
          · obtain ⟨x, hx⟩ : ∃ x, l[k]? = some x := ⟨_, List.getElem?_eq_getElem hlt⟩
            obtain ⟨ad, rfl, hcell⟩ := strl_at HC.out HA.out.mine.below k x hx
            have HN := hd (all_next HG.out HA.out x hx h50 (by have := HM.out; omega))
            clear hx
            go_wp2_with (first | (go_at_call 11; refine (num4_any _ _).mono ?_; rintro e w' ⟨rfl, rfl⟩) | (go_at_call 14; refine HN.out.mono ?_; rintro e wn ⟨rfl, s', L', fp', ha⟩; have HA' := hd ha; have hrec := ha.recs (by omega); clear ha) | (go_at_call 22; refine (Tryd.ledRecords lb b s' L' fp' fp' _ _ (HA'.out.led.led HA'.out.mine)).mono ?_; rintro e wn2 ⟨rfl, rfl⟩))
            go_roundw
            case rel => exact ⟨k + 1, s', L', fp', by omega, by go_num, HA'⟩
            case measure => simp [RowKit.intOf]; omega
          · obtain rfl : k = l.length := by omega
            have HE := hd (all_end HG.out HA.out)
            clear HA
            go_wp2_with (go_at_call 11; refine (num4_any _ _).mono ?_; rintro e w' ⟨rfl, rfl⟩)
            refine HE.out.mono ?_
            rintro e w5 ⟨rfl, ho⟩
            have HO := hd (ho 0)
            clear ho HE
            go_wp2_with (go_at_call 11; refine (num4_any _ _).mono ?_; rintro e w' ⟨rfl, rfl⟩)
            refine HO.out.mono ?_
            rintro e w6 ⟨lb', v', s', L', fp', B, rfl, hm, hl, he, hr, hv⟩
            obtain ⟨A6, c6, rfl, hc6, hC6⟩ := Kd.R_reads hv
            have HS := hd (same_call (l0 := l) (l1 := l) ⟨rfl, hc6, hC6⟩ ⟨rfl, HCC.out, Kd.C_below HC.out hm.below⟩ (by omega))
            have HLD := hd (fun n => (hl.drewN n).led (hm.drewN n))
            have HB6 := hd hm.below
            clear hm hl hv hC6 hc6 HO
            go_wp2_with (first | (go_at_call 11; refine (num4_any _ _).mono ?_; rintro e w' ⟨rfl, rfl⟩) | (go_at_call 18; refine HS.out.mono ?_; rintro e w7 ⟨rfl, n7, rfl⟩) | (go_at_call 23; refine (Tryd.ledEpoch lb' b s' L' fp' fp' _ _ (HLD.out n7)).mono ?_; rintro e w' ⟨rfl, rfl⟩) | (go_at_call 22; refine (Tryd.ledRecords lb' b s' L' fp' fp' _ _ (HLD.out n7)).mono ?_; rintro e w' ⟨rfl, rfl⟩) | (go_at_call 9; refine (LV.out _ (HB6.out.trans ((below_drewN0 _ n7).mono HB6.out.size))).mono ?_; rintro e w1 ⟨rfl, hl⟩))
            go_ret
            exact ⟨rfl, hl⟩
      · have LVX : (50 : Int) < l.length ∨ (8000 : Int) < m := by omega
        clear h4
        rcases LVX with h5 | h5
        · go_wp2_with (go_at_call 9; refine (LV.out _ (Below.refl _ _)).mono ?_; rintro e w1 ⟨rfl, hl⟩)
          all_goals
            go_ret
            exact ⟨rfl, hl⟩
        · go_wp2_with (go_at_call 9; refine (LV.out _ (Below.refl _ _)).mono ?_; rintro e w1 ⟨rfl, hl⟩)
          all_goals
            go_ret
            exact ⟨rfl, hl⟩
/-- As the row wants it. -/
theorem all_walk {H : Type} {enc : TypeId × Value → H} (W : World) (hG : Gl W) (v : Value) (ho : ∃ A n c, v = .slice A n c) {d : DataW H} {p : List MemPlace} (h : DataW.Trod enc Tryd.prog W 0 (fun _ => true) true 31 v d p) (hl : Light Tryd.prog 31 d) (a1 : ByteArray) (w1 : a1.size ≤ 140737488351232) :
    Calls Tryd.prog 5 #[v, .string a1] W fun e w' => e = .returned (.bool true) ∧ Below W.heap.size W w' := by
  obtain ⟨A, l, c, rfl, hc, hC, hn, hz⟩ := open_strs ho h hl
  exact all_core W hG A c l hc hC hn hz a1 w1
end Go.Proofs.YtjmejamgbinigaaDoor
namespace Go.Proofs.YtjmejamgbinigaaDoor
set_option linter.unusedVariables false
set_option linter.unusedSimpArgs false
open Go.RowKit Go.Proofs.YtjmejamgbinigaaDoorW.PrintWords Go.Proofs.YtjmejamgbinigaaDoorW.PrintLast
/-- A row of texts that no call of the ledger or its reel writes. -/
def HRow (w : World) (fp : List Nat) (lb : Nat) (v : Value) (xs : List ByteArray) : Prop := ∃ B, Kd.R Kd.string 9 w B (fun j => j ∉ fp ∧ j ≠ lb) v xs
theorem HRow.nil (w : World) (fp : List Nat) (lb : Nat) : HRow w fp lb (.slice none 0 0) [] := ⟨0, Kd.R_nil _ _ _ _ _⟩
theorem HRow.step {w w' : World} {fp fp' : List Nat} {lb lb' : Nat} {v : Value} {xs : List ByteArray} (h : HRow w fp lb v xs) (c : Chg (fun k => k = lb ∨ k ∈ fp) w w') (f : ∀ k ∈ fp', k ∈ fp ∨ w.heap.size ≤ k) (hl : lb' = lb ∨ w.heap.size ≤ lb') : HRow w' fp' lb' v xs := by
  obtain ⟨B, h⟩ := h
  refine ⟨B, Kd.R_mono (Kd.R_step (Kd.R_bound h) (fun k hk hk2 => c.block k hk2 (fun q => q.elim hk.1.2 hk.1.1))) (fun k hk => ⟨fun q => ?_, fun q => ?_⟩)⟩
  · have := hk.2.2.1
    rcases f k q with q | q
    · exact hk.1.1 q
    · omega
  · have := hk.2.2.1
    rcases hl with r | r
    · exact hk.1.2 (q.trans r)
    · omega
theorem HRow.below {w w' : World} {fp : List Nat} {lb : Nat} {v : Value} {xs : List ByteArray} (h : HRow w fp lb v xs) (hb : Below w.heap.size w w') : HRow w' fp lb v xs := by
  obtain ⟨B, h⟩ := h
  exact ⟨B, Kd.R_below h hb⟩
theorem HRow.reads {w : World} {fp : List Nat} {lb : Nat} {v : Value} {xs : List ByteArray} (h : HRow w fp lb v xs) : ∃ A c, v = .slice A xs.length c ∧ xs.length ≤ c ∧ Kd.C Kd.string w A xs.length xs := by
  obtain ⟨B, h⟩ := h
  exact Kd.R_reads h
structure LastAt (w0 w : World) (b lb : Nat) (s : RS) (L : LS) (fp : List Nat) (B N : ByteArray) (all more : List ByteArray) (va vm : Value) (k u : Nat) : Prop where
  mine : MineL w0 w b s fp
  led : Lg w0 w b fp lb L
  lok : L.Ok
  room : s.room = 4194304
  used : s.used ≤ u
  ep : L.broken = false → L.epoch ≤ k + 1
  len : all.length ≤ k
  mlen : more.length ≤ k + 1
  st : (L.broken = false ∧ Clean s L (bsL B) (all.map bsL)) ∨ (L.broken = true ∧ Torn s (k + 1) (bsL B) (all.map bsL) (bsL N) (more.map bsL))
  ra : HRow w fp lb va all
  rm : HRow w fp lb vm more
theorem LastAt.below {w0 w w' : World} {b lb : Nat} {s : RS} {L : LS} {fp : List Nat} {B N : ByteArray} {all more : List ByteArray} {va vm : Value} {k u : Nat} (h : LastAt w0 w b lb s L fp B N all more va vm k u) (hb : Below w.heap.size w w') : LastAt w0 w' b lb s L fp B N all more va vm k u :=
  ⟨h.mine.below_ hb, h.led.below_ hb, h.lok, h.room, h.used, h.ep, h.len, h.mlen, h.st, h.ra.below hb, h.rm.below hb⟩
theorem LastAt.more {w0 w : World} {b lb : Nat} {s : RS} {L : LS} {fp : List Nat} {B N : ByteArray} {all more : List ByteArray} {va vm : Value} {k u u' : Nat} (h : LastAt w0 w b lb s L fp B N all more va vm k u) (hu : u ≤ u') : LastAt w0 w b lb s L fp B N all more va vm k u' :=
  ⟨h.mine, h.led, h.lok, h.room, Nat.le_trans h.used hu, h.ep, h.len, h.mlen, h.st, h.ra, h.rm⟩
theorem LastAt.later {w0 w : World} {b lb : Nat} {s : RS} {L : LS} {fp : List Nat} {B N : ByteArray} {all more : List ByteArray} {va vm : Value} {k u : Nat} (h : LastAt w0 w b lb s L fp B N all more va vm k u) : LastAt w0 w b lb s L fp B N all more va vm (k + 1) u := by
  have hlen := h.len
  have hml := h.mlen
  refine ⟨h.mine, h.led, h.lok, h.room, h.used, fun q => by have := h.ep q; omega, by omega, by omega, ?_, h.ra, h.rm⟩
  rcases h.st with q | ⟨q0, q⟩
  · exact .inl q
  · refine .inr ⟨q0, q.ok, q.dead, fun k0 k1 => ?_⟩
    obtain ⟨t, e, he, r⟩ := q.told k0 k1
    exact ⟨t, e, by omega, r⟩
theorem addM_ok {s s' : RS} {L L' : LS} {q : Txt} {er : Int} (h : L.Ok) (hr : L.recs < 8000000000000000000) (hm : addM s L q = (s', L', er)) : L'.Ok := by
  have hk := wr_keeps s L L.tape (laidL kRec (L.recs + 1) q)
  obtain ⟨h1, h2, h3, h4, h5⟩ := h
  unfold addM at hm
  split at hm
  · cases hm; exact ⟨h1, h2, h3, h4, h5⟩
  · split at hm
    · cases hm
      exact ⟨by show (wr s L L.tape _).2.1.tape = 0 ∨ (wr s L L.tape _).2.1.tape = 1; rw [hk.1]; exact h1, by show 0 ≤ (wr s L L.tape _).2.1.epoch; rw [hk.2.1]; exact h2, by show (wr s L L.tape _).2.1.epoch < _; rw [hk.2.1]; exact h3, by show 0 ≤ (wr s L L.tape _).2.1.recs + 1; rw [hk.2.2]; omega, by show (wr s L L.tape _).2.1.recs + 1 < _; rw [hk.2.2]; omega⟩
    · have e : L' = (wr s L L.tape (laidL kRec (L.recs + 1) q)).2.1 := by rw [hm]
      rw [e]
      exact ⟨by rw [hk.1]; exact h1, by rw [hk.2.1]; exact h2, by rw [hk.2.1]; exact h3, by rw [hk.2.2]; exact h4, by rw [hk.2.2]; exact h5⟩
theorem baseM_ok {s s' : RS} {L L' : LS} {q : Txt} {er : Int} (h : L.Ok) (hr : L.epoch < 8000000000000000000) (hm : baseM s L q = (s', L', er)) : L'.Ok := by
  have hk := wr_keeps s L (1 - L.tape) (laidL kBase (L.epoch + 1) q)
  obtain ⟨h1, h2, h3, h4, h5⟩ := h
  unfold baseM at hm
  split at hm
  · cases hm; exact ⟨h1, h2, h3, h4, h5⟩
  · split at hm
    · have e : L' = (wr s L (1 - L.tape) (laidL kBase (L.epoch + 1) q)).2.1 := by rw [hm]
      rw [e]
      exact ⟨by rw [hk.1]; exact h1, by rw [hk.2.1]; exact h2, by rw [hk.2.1]; exact h3, by rw [hk.2.2]; exact h4, by rw [hk.2.2]; exact h5⟩
    · split at hm
      · cases hm
        exact ⟨by show (wr s L (1 - L.tape) _).2.1.tape = 0 ∨ (wr s L (1 - L.tape) _).2.1.tape = 1; rw [hk.1]; exact h1, by show 0 ≤ (wr s L (1 - L.tape) _).2.1.epoch; rw [hk.2.1]; exact h2, by show (wr s L (1 - L.tape) _).2.1.epoch < _; rw [hk.2.1]; exact h3, by show 0 ≤ (wr s L (1 - L.tape) _).2.1.recs; rw [hk.2.2]; exact h4, by show (wr s L (1 - L.tape) _).2.1.recs < _; rw [hk.2.2]; exact h5⟩
      · cases hm
        exact ⟨by show 1 - L.tape = 0 ∨ 1 - L.tape = 1; omega, by show 0 ≤ L.epoch + 1; omega, by show L.epoch + 1 < _; omega, by show (0 : Int) ≤ 0; omega, by show (0 : Int) < _; omega⟩
section
variable {w0 w : World} {b lb : Nat} {s : RS} {L : LS} {fp : List Nat} {B N : ByteArray} {all more : List ByteArray} {va vm : Value} {k u : Nat}
theorem last_add (hG : Gl w0) (x : ByteArray) (h : LastAt w0 w b lb s L fp B B all (all ++ [x]) va vm k u) (hbr : L.broken = false) (hx : x.size ≤ 8000) (hu : u ≤ 1000000) (hk : k ≤ 50) :
    (Calls Tryd.prog 14 #[.pointer (some ⟨lb, 0, none⟩), .string x] w fun r w' => r = .returned (.int .i64 0) ∧ ∃ s' L' fp', LastAt w0 w' b lb s' L' fp' B B (all ++ [x]) (all ++ [x]) vm vm (k + 1) (u + x.size + 140)) ∨
    (Calls Tryd.prog 14 #[.pointer (some ⟨lb, 0, none⟩), .string x] w fun r w' => r = .returned (.int .i64 30) ∧ ∃ s' L' fp', LastAt w0 w' b lb s' L' fp' B B all (all ++ [x]) va vm (k + 1) (u + x.size + 140)) := by
  have hcl : Clean s L (bsL B) (all.map bsL) := by
    rcases h.st with ⟨_, q⟩ | ⟨q, _⟩
    · exact q
    · rw [hbr] at q; cases q
  have zx := bs_size x
  have zx' : (bsL x).length = x.size := zx.symm
  have hus := h.used
  have hlen := h.len
  have hep := h.ep hbr
  have hn := hcl.n
  rw [List.length_map] at hn
  have hmap : (all ++ [x]).map bsL = all.map bsL ++ [bsL x] := by simp
  rcases hcl.add (bsL x) (by omega) (by rw [free_eq, h.room]; omega) (by simp; omega) with ⟨s', L', ha, hc, t1, t2, t3, t4, t5, t6⟩ | ⟨_, s', L', ha, hb', ht, t4, t5⟩
  · left
    refine (own_add hG h.mine h.led h.lok x (by omega) s' L' 0 ha).mono ?_
    rintro r w' ⟨rfl, fp', hm, hl, hch, hf⟩
    refine ⟨rfl, s', L', fp', hm, hl, hc.lok, t4.trans h.room, by omega, fun _ => by rw [t2]; omega, by simp; omega, by simp; omega, .inl ⟨hc.broken, by rw [hmap]; exact hc⟩, h.rm.step hch hf (.inl rfl), h.rm.step hch hf (.inl rfl)⟩
  · right
    refine (own_add hG h.mine h.led h.lok x (by omega) s' L' 30 ha).mono ?_
    rintro r w' ⟨rfl, fp', hm, hl, hch, hf⟩
    refine ⟨rfl, s', L', fp', hm, hl, addM_ok h.lok (by omega) ha, t4.trans h.room, by omega, fun q => (by rw [hb'] at q; cases q), by omega, by simp; omega, .inr ⟨hb', ht.ok, ht.dead, fun k0 k1 => ?_⟩, h.ra.step hch hf (.inl rfl), h.rm.step hch hf (.inl rfl)⟩
    obtain ⟨t, e, he, q⟩ := ht.told k0 k1
    rw [hmap]
    exact ⟨t, e, by omega, q⟩
theorem last_base (hG : Gl w0) (x : ByteArray) (h : LastAt w0 w b lb s L fp B x all [] va (.slice none 0 0) k u) (hbr : L.broken = false) (hx : x.size ≤ 8000) (hu : u ≤ 1000000) (hk : k ≤ 50) :
    (Calls Tryd.prog 15 #[.pointer (some ⟨lb, 0, none⟩), .string x] w fun r w' => r = .returned (.int .i64 0) ∧ ∃ s' L' fp', LastAt w0 w' b lb s' L' fp' x x [] [] (.slice none 0 0) (.slice none 0 0) (k + 1) (u + x.size + 140)) ∨
    (Calls Tryd.prog 15 #[.pointer (some ⟨lb, 0, none⟩), .string x] w fun r w' => r = .returned (.int .i64 30) ∧ ∃ s' L' fp', LastAt w0 w' b lb s' L' fp' B x all [] va (.slice none 0 0) (k + 1) (u + x.size + 140)) := by
  have hcl : Clean s L (bsL B) (all.map bsL) := by
    rcases h.st with ⟨_, q⟩ | ⟨q, _⟩
    · exact q
    · rw [hbr] at q; cases q
  have zx := bs_size x
  have zx' : (bsL x).length = x.size := zx.symm
  have hus := h.used
  have hlen := h.len
  have hep := h.ep hbr
  rcases hcl.base (bsL x) (by omega) (by rw [free_eq, h.room]; omega) (by omega) with ⟨s', L', ha, hc, t1, t2, t3, t4, t5, t6⟩ | ⟨_, s', L', ha, hb', ht, t4, t5⟩
  · left
    refine (own_base hG h.mine h.led h.lok x (by omega) s' L' 0 ha).mono ?_
    rintro r w' ⟨rfl, fp', hm, hl, hch, hf⟩
    exact ⟨rfl, s', L', fp', hm, hl, hc.lok, t4.trans h.room, by omega, fun _ => by rw [t2]; omega, by simp, by simp, .inl ⟨hc.broken, hc⟩, h.rm.step hch hf (.inl rfl), h.rm.step hch hf (.inl rfl)⟩
  · right
    refine (own_base hG h.mine h.led h.lok x (by omega) s' L' 30 ha).mono ?_
    rintro r w' ⟨rfl, fp', hm, hl, hch, hf⟩
    refine ⟨rfl, s', L', fp', hm, hl, baseM_ok h.lok (by omega) ha, t4.trans h.room, by omega, fun q => (by rw [hb'] at q; cases q), by omega, by simp, .inr ⟨hb', ht.ok, ht.dead, fun k0 k1 => ?_⟩, h.ra.step hch hf (.inl rfl), h.rm.step hch hf (.inl rfl)⟩
    obtain ⟨t, e, he, q⟩ := ht.told k0 k1
    exact ⟨t, e, by omega, q⟩
theorem last_broken (hG : Gl w0) (x : ByteArray) (h : LastAt w0 w b lb s L fp B N all more va vm k u) (hbr : L.broken = true) (hx : x.size ≤ 8000) :
    Calls Tryd.prog 14 #[.pointer (some ⟨lb, 0, none⟩), .string x] w fun r w' => r = .returned (.int .i64 40) ∧ ∃ fp', LastAt w0 w' b lb s L fp' B N all more va vm (k + 1) u := by
  have ha : addM s L (bsL x) = (s, L, 40) := by
    unfold addM
    have : L.start (bsL x).length = 40 := by unfold LS.start; rw [if_pos hbr]
    rw [this, if_pos (by decide)]
  refine (own_add hG h.mine h.led h.lok x (by omega) s L 40 ha).mono ?_
  rintro r w' ⟨rfl, fp', hm, hl, hch, hf⟩
  have hlen := h.len
  have hml := h.mlen
  refine ⟨rfl, fp', hm, hl, h.lok, h.room, h.used, fun q => (by rw [hbr] at q; cases q), by omega, by omega, ?_, h.ra.step hch hf (.inl rfl), h.rm.step hch hf (.inl rfl)⟩
  rcases h.st with ⟨q, _⟩ | ⟨_, q⟩
  · rw [hbr] at q; cases q
  · refine .inr ⟨hbr, q.ok, q.dead, fun k0 k1 => ?_⟩
    obtain ⟨t, e, he, r⟩ := q.told k0 k1
    exact ⟨t, e, by omega, r⟩
theorem last_arm (n : Int) (h : LastAt w0 w b lb s L fp B N all more va vm k u) (h0 : -9223372036854775808 ≤ n) (h1 : n ≤ 9223372036854775807) :
    Calls Tryd.prog 16 #[.pointer (some ⟨b, 0, none⟩), .int .i64 n] w fun r w' => r = .returned (.tuple #[]) ∧ ∃ fp', LastAt w0 w' b lb (s.arm n) L fp' B N all more va vm (k + 1) u := by
  refine (arm_any b n s fp w h.mine.at_ h0 h1).mono ?_
  rintro r w' ⟨rfl, hp⟩
  obtain ⟨fp', hm, hk, hch, hf⟩ := h.mine.next hp
  have hch' : Chg (fun k => k = lb ∨ k ∈ fp) w w' := hch.mono (fun _ _ q => .inr q)
  have hlen := h.len
  have hml := h.mlen
  refine ⟨rfl, fp', hm, hk _ _ h.led, h.lok, h.room, h.used, fun q => by have := h.ep q; omega, by omega, by omega, ?_, h.ra.step hch' hf (.inl rfl), h.rm.step hch' hf (.inl rfl)⟩
  rcases h.st with ⟨q0, q⟩ | ⟨q0, q⟩
  · exact .inl ⟨q0, q.ok.arm h0 h1, q.dead, q.broken, q.tape, q.full, q.rest, q.safe', q.rest', q.n, q.fits⟩
  · refine .inr ⟨q0, q.ok.arm h0 h1, q.dead, fun k0 k1 => ?_⟩
    obtain ⟨t, e, he, r⟩ := q.told k0 k1
    exact ⟨t, e, by omega, r⟩
/-- Behind a crash: opened anew. -/
theorem last_crash (hG : Gl w0) (k0 k1 : Int) (h : LastAt w0 w b lb s L fp B N all more va vm k u) :
    Calls Tryd.prog 17 #[.pointer (some ⟨b, 0, none⟩), .agg #[.int .i64 k0, .int .i64 k1, .int .u8 0]] w fun r w1 => r = .returned (.tuple #[]) ∧
      Calls Tryd.prog 12 #[.pointer (some ⟨b, 0, none⟩)] w1 fun r w' => ∃ lb' F out v s' L' fp', r = .returned (.tuple #[.pointer (some ⟨lb', 0, none⟩), .string F, v, .int .i64 0]) ∧
        LastAt w0 w' b lb' s' L' fp' F F out out v v (k + 1) u ∧ ((F = B ∧ out = all) ∨ (F = N ∧ out = more)) ∧ HRow w' fp' lb' va all ∧ HRow w' fp' lb' vm more := by
  have hA : ∃ t e F out, e ≤ (k : Int) + 1 ∧ After (s.crash k0 k1 0) t e (bsL F) (out.map bsL) ∧ ((F = B ∧ out = all) ∨ (F = N ∧ out = more)) := by
    rcases h.st with ⟨q0, q⟩ | ⟨q0, q⟩
    · exact ⟨L.tape, L.epoch, B, all, h.ep q0, q.after k0 k1 0, .inl ⟨rfl, rfl⟩⟩
    · obtain ⟨t, e, he, r⟩ := q.told k0 k1
      rcases r with r | r
      · exact ⟨t, e, B, all, he, r, .inl ⟨rfl, rfl⟩⟩
      · exact ⟨t, e, N, more, he, r, .inr ⟨rfl, rfl⟩⟩
  obtain ⟨t, e, F, out, he, hAf, hor⟩ := hA
  obtain ⟨s3, L3, o3, c3, f3, p3, e3, t3, l3, m3, u3⟩ := hAf.open_
  have hcu := crash_used s k0 k1 0
  have hus := h.used
  have hlen := h.len
  have hml := h.mlen
  refine (own_crash h.mine k0 k1 0).mono ?_
  rintro r w1 ⟨rfl, fp1, hm, hk1, hch1, hf1⟩
  refine ⟨rfl, ?_⟩
  have hch1' : Chg (fun k => k = lb ∨ k ∈ fp) w w1 := hch1.mono (fun _ _ q => .inr q)
  have ra1 := h.ra.step hch1' hf1 (.inl rfl)
  have rm1 := h.rm.step hch1' hf1 (.inl rfl)
  refine (own_open hG hm s3 L3 _ _ _ _ o3 f3 p3).mono ?_
  rintro r w2 ⟨fp', lb', v, B', rfl, hm2, hl2, _, _, hv, hch2, hf2, hlb⟩
  have hch2' : Chg (fun k => k = lb ∨ k ∈ fp1) w1 w2 := hch2.mono (fun _ _ q => .inr q)
  rw [map_back] at hv
  rw [of_bs]
  have hvr : HRow w2 fp' lb' v out := ⟨B', Kd.R_mono hv (fun j hj => ⟨hj.2.1, hj.2.2⟩)⟩
  have hol : out.length ≤ k + 1 := by
    rcases hor with ⟨_, rfl⟩ | ⟨_, rfl⟩
    · omega
    · exact hml
  exact ⟨lb', F, out, v, s3, L3, fp', rfl, ⟨hm2, hl2, c3.lok, m3.trans h.room, by omega, fun _ => by rw [e3]; omega, by omega, by omega, .inl ⟨c3.broken, c3⟩, hvr, hvr⟩, hor, ra1.step hch2' hf2 (.inr hlb), rm1.step hch2' hf2 (.inr hlb)⟩
end
/-! ### A new row of texts -/
structure AppSt (W1 : World) (v : Value) (xs : List Value) (cur : World) : Prop where
  row : Row cur 9 v xs
  own : ∀ k, v.ownBlock = some k → W1.heap.size ≤ k
  below : Below W1.heap.size W1 cur
theorem row_empty {w : World} {g : Nat} (h : w.heap[g]? = some (.cells #[] 9 (0, 0))) : Row w 9 (.slice (some ⟨g, 0, none⟩) 0 0) [] :=
  ⟨rfl, .inr ⟨g, 0, #[], rfl, Nat.zero_le _, h, by simp, by simp [maxLen], by simp, by simp⟩⟩
theorem app_i (W1 : World) : AppSt W1 (.slice (some ⟨W1.heap.size, 0, none⟩) 0 0) [] (W1.alloc (.cells #[] 9)).drew :=
  ⟨row_empty (heap_alloc_new W1 _), fun k hk => by simp [Value.ownBlock] at hk; omega, below_drew ((Below.refl _ _).alloc (Nat.le_refl _) _)⟩
theorem app_ii (W1 : World) (o : Obj) : AppSt W1 (.slice (some ⟨W1.heap.size, 0, none⟩) 0 0) [] ((W1.alloc (.cells #[] 9)).alloc o).drew :=
  ⟨row_empty ((Below.heap_alloc _ _ _ (by simp)).trans (heap_alloc_new W1 _)), fun k hk => by simp [Value.ownBlock] at hk; omega, below_drew (((Below.refl _ _).alloc (Nat.le_refl _) _).alloc (by simp) _)⟩
theorem app_iii (W1 : World) (o : Obj) : AppSt W1 (.slice (some ⟨W1.heap.size + 1, 0, none⟩) 0 0) [] ((W1.alloc o).alloc (.cells #[] 9)).drew := by
  have h := heap_alloc_new (W1.alloc o) (.cells #[] 9)
  rw [show (W1.alloc o).heap.size = W1.heap.size + 1 by simp] at h
  exact ⟨row_empty h, fun k hk => by simp [Value.ownBlock] at hk; omega, below_drew (((Below.refl _ _).alloc (Nat.le_refl _) _).alloc (by simp) _)⟩
theorem AppSt.step {W1 cur w' : World} {v v' : Value} {xs ys : List Value} (h : AppSt W1 v xs cur) (hr : Row w' 9 v' (xs ++ ys)) (hg : cur.grownBy w' v.ownBlock) (hb : v'.ownBlock = v.ownBlock ∨ v'.ownBlock = some cur.heap.size) : AppSt W1 v' (xs ++ ys) w' := by
  have hs := h.below.size
  refine ⟨hr, fun k hk => ?_, h.below.trans ⟨hg.os, hg.tape, hg.output, hg.size, fun k hk => hg.block k (by omega) (fun q => by have := h.own k q.symm; omega)⟩⟩
  rcases hb with q | q
  · rw [q] at hk; exact h.own k hk
  · rw [q] at hk; cases hk; exact hs
theorem AppSt.alloc {W1 cur : World} {v : Value} {xs : List Value} (h : AppSt W1 v xs cur) (o : Obj) : AppSt W1 v xs (cur.alloc o) := ⟨h.row.alloc o, h.own, h.below.alloc h.below.size o⟩
theorem AppSt.hrow {W1 cur : World} {v : Value} {l : List ByteArray} {fp : List Nat} {lb : Nat} (h : AppSt W1 v (l.map Value.string) cur) (hf : ∀ k ∈ fp, k < W1.heap.size) (hl : lb < W1.heap.size) : HRow cur fp lb v l := by
  refine ⟨0, Kd.R_of_own ?_ (fun k hk => ?_)⟩
  · have := h.row
    unfold Row at this
    rw [List.length_map] at this
    exact this
  · have := h.own k hk
    exact ⟨fun q => by have := hf k q; omega, by omega⟩
theorem HRow.row {w : World} {fp : List Nat} {lb : Nat} {v : Value} {xs : List ByteArray} (h : HRow w fp lb v xs) : Row w 9 v (xs.map Value.string) := by
  obtain ⟨B, h⟩ := h
  have := own_less (Kd.own_of_R h) (Nat.zero_le B)
  unfold Row
  rw [List.length_map]
  exact this
theorem lit_row (w : World) (x : ByteArray) : Row (w.alloc (.cells #[.string x] 9)) 9 (.slice (some ⟨w.heap.size, 0, none⟩) 1 1) [.string x] :=
  ⟨rfl, .inr ⟨w.heap.size, 1, #[.string x], rfl, Nat.zero_le _, heap_alloc_new w _, by simp, by simp [maxLen], by simp, by simp⟩⟩
theorem lit_ii (W1 : World) (x : ByteArray) : Row ((W1.alloc (.cells #[] 9)).alloc (.cells #[.string x] 9)).drew 9 (.slice (some ⟨W1.heap.size + 1, 0, none⟩) 1 1) [.string x] := by
  have h := (lit_row (W1.alloc (.cells #[] 9)) x).drew
  rwa [show (W1.alloc (.cells #[] 9)).heap.size = W1.heap.size + 1 by simp] at h
theorem lit_iii (W1 : World) (x : ByteArray) : Row ((W1.alloc (.cells #[.string x] 9)).alloc (.cells #[] 9)).drew 9 (.slice (some ⟨W1.heap.size, 0, none⟩) 1 1) [.string x] := ((lit_row W1 x).alloc _).drew
theorem lit_grown {w w' : World} {s g n c : Nat} {ys : List Value} (h : Row w 9 (.slice (some ⟨s, 0, none⟩) 1 1) ys) (hg : w.grownBy w' (Value.ownBlock (.slice (some ⟨g, 0, none⟩) n c))) (hne : s ≠ g) : Row w' 9 (.slice (some ⟨s, 0, none⟩) 1 1) ys :=
  h.grown hg (fun k hk q => by simp [Value.ownBlock] at hk q; omega)
theorem grown_cell {w w' : World} {row : Option Nat} {p : Addr} {v : Value} (hg : w.grownBy w' row) (hc : w.cell? p = some v) (hn : row ≠ some p.block) : w'.cell? p = some v := by
  have hl := World.block_lt_of_cell? w _ hc
  rw [← hc]
  unfold World.cell?
  rw [hg.block _ hl (fun q => hn q.symm)]
theorem str_info : (Tryd.prog.info? 9).map (fun i => (i.zero, i.size, i.bytes)) = some (some (.string ⟨#[]⟩), 1, 16) := by kernel_rfl
theorem strs_one (l : List ByteArray) : ∀ y ∈ l.map Value.string, y.oneCell' = true := by
  intro y hy
  obtain ⟨x, _, rfl⟩ := List.mem_map.1 hy
  rfl
/-- What comes next is told anew, ahead of a call. -/
theorem LastAt.next {w0 w : World} {b lb : Nat} {s : RS} {L : LS} {fp : List Nat} {B N : ByteArray} {all more : List ByteArray} {va vm : Value} {k u : Nat} (h : LastAt w0 w b lb s L fp B N all more va vm k u) (hbr : L.broken = false) (N' : ByteArray) (more' : List ByteArray) (vm' : Value) (hr : HRow w fp lb vm' more') (hm : more'.length ≤ k + 1) :
    LastAt w0 w b lb s L fp B N' all more' va vm' k u := by
  refine ⟨h.mine, h.led, h.lok, h.room, h.used, h.ep, h.len, hm, ?_, h.ra, hr⟩
  rcases h.st with q | ⟨q, _⟩
  · exact .inl q
  · rw [hbr] at q; cases q
theorem LastAt.appended {w0 W1 w : World} {b lb : Nat} {s : RS} {L : LS} {fp : List Nat} {B N : ByteArray} {all more : List ByteArray} {va vm v2 : Value} {k u : Nat} {x : ByteArray} (h : LastAt w0 W1 b lb s L fp B N all more va vm k u) (hbr : L.broken = false) (S2 : AppSt W1 v2 ((all ++ [x]).map Value.string) w) :
    LastAt w0 w b lb s L fp B B all (all ++ [x]) va v2 k u := by
  have hlen := h.len
  exact (h.below S2.below).next hbr B (all ++ [x]) v2 (S2.hrow h.mine.lt h.led.blk.lt) (by simp; omega)
end Go.Proofs.YtjmejamgbinigaaDoor
namespace Go.Proofs.YtjmejamgbinigaaDoor
set_option linter.unusedVariables false
set_option linter.unusedSimpArgs false
open Go.RowKit Go.Proofs.YtjmejamgbinigaaDoorW.PrintWords Go.Proofs.YtjmejamgbinigaaDoorW.PrintLast
theorem last_first {w0 w : World} (hG : Gl w0) {b : Nat} {fp : List Nat} (h : MineL w0 w b (RS.new 4194304) fp) :
    Calls Tryd.prog 12 #[.pointer (some ⟨b, 0, none⟩)] w fun r w1 => ∃ lb v, r = .returned (.tuple #[.pointer (some ⟨lb, 0, none⟩), .string (str []), v, .int .i64 0]) ∧ ∃ s L fp', LastAt w0 w1 b lb s L fp' ⟨#[]⟩ ⟨#[]⟩ [] [] (.slice none 0 0) (.slice none 0 0) 0 140 := by
  refine (all_first hG h).mono ?_
  rintro r w2 ⟨lb, v, rfl, s, L, fp', hm, hl, hc, he, hlf, hr, hu⟩
  exact ⟨lb, v, rfl, s, L, fp', hm, hl, hc.lok, hr, hu, fun _ => by omega, by simp, by simp, .inl ⟨hc.broken, hc⟩, HRow.nil _ _ _, HRow.nil _ _ _⟩
set_option maxHeartbeats 64000000 in
set_option maxRecDepth 100000 in
theorem lasts_core (w : World) (hG : Gl w) (A : Option Addr) (c : Nat) (l : List Act) (hA : ActsAt w A l) (hlen : l.length ≤ 140737488351232) :
    Calls Tryd.prog 3 #[.slice A l.length c] w fun e w' => e = .returned (.bool true) ∧ Below w.heap.size w w' := by
  have LV := hd (live_at hG)
  have HG := hd hG
  have HA := hd hA
  clear hG hA
  go_enter Tryd.func3, Tryd.ntmps3
  go_wp2_with (fail)
  refine (small_any A l c w HA.out hlen).mono ?_
  rintro e w' ⟨bb, rfl, hsm, rfl⟩
  cases bb with
  | false =>
    go_wp2_with (go_at_call 9; refine (LV.out _ (Below.refl _ _)).mono ?_; rintro e w1 ⟨rfl, hl⟩)
    go_ret
    exact ⟨rfl, hl⟩
  | true =>
    have HSM := hd (hsm rfl)
    clear hsm
    go_wp2_with (go_at_call 11; refine (num4_any _ _).mono ?_; rintro e w' ⟨rfl, rfl⟩)
    refine (own_new 4194304 w _ (Below.refl _ _) (by decide) (by decide)).mono ?_
    rintro e w1 ⟨b, fp1, rfl, hm, _⟩
    have HM1 := hd hm
    clear hm
    go_wp2_with (go_at_call 11; refine (num4_any _ _).mono ?_; rintro e w' ⟨rfl, rfl⟩)
    refine (last_first HG.out HM1.out).mono ?_
    rintro e w3 ⟨lb0, v2, rfl, s3, L3, fp3, ha⟩
    have HA3 := hd ha
    clear ha HM1
    go_wp2_with (go_at_call 11; refine (num4_any _ _).mono ?_; rintro e w' ⟨rfl, rfl⟩)
    go_loopw [5, 9, 10, 11, 12, 13] (fun va vb vn vall vmore i wr => ∃ (k lb : Nat) (s : RS) (L : LS) (fp : List Nat) (B N : ByteArray) (all more : List ByteArray), k ≤ l.length ∧ va = .pointer (some ⟨lb, 0, none⟩) ∧ vb = .string B ∧ vn = .string N ∧ i = .int .i64 k ∧
      Hd (LastAt w wr b lb s L fp B N all more vall vmore k (140 + totA l k + 140 * k))) (fun _ _ _ _ _ i _ => l.length - (RowKit.intOf i).toNat)
    case atStart => exact ⟨0, lb0, s3, L3, fp3, ⟨#[]⟩, ⟨#[]⟩, [], [], by omega, rfl, rfl, rfl, rfl, by simpa [totA] using HA3⟩
    case round =>
      obtain ⟨k, lb, s, L, fp, B, N, all, more, hk, rfl, rfl, rfl, rfl, HL⟩ := hrel
      clear HA3
      by_cases hlt : k < l.length
      · obtain ⟨p, off, rfl⟩ := HA.out.addr (by intro h; rw [h] at hlt; simp at hlt)
        obtain ⟨a, ha⟩ : ∃ a, l[k]? = some a := ⟨_, List.getElem?_eq_getElem hlt⟩
        have HC := (HA.out.below HL.out.mine.below).cell p off k
        have c0 := HC 0 a _ rfl ha rfl
        have c1 := HC 1 a _ rfl ha rfl
        have c2 := HC 2 a _ rfl ha rfl
        have c3 := HC 3 a _ rfl ha rfl
        have c4 := HC 4 a _ rfl ha rfl
        have c5 := HC 5 a _ rfl ha rfl
        simp only [← Nat.add_assoc, Nat.add_zero] at c0 c1 c2 c3 c4 c5
        have HOk := hd (HA.out.ok a (List.mem_of_getElem? ha))
        have hts := totA_succ l k a ha
        have htl := totA_le l l.length k a ha hlt
        have HT := hd (And.intro hts htl)
        clear HC ha hts htl
        have hx8 : a.s.size ≤ 8000 := by have := HT.out.2; have := HSM.out.2; omega
        have hk50 : k ≤ 50 := by have := HSM.out.1; omega
        have HL1 := hd (HL.out.below ((Below.refl _ _).alloc (Nat.le_refl _) (.cells a.cells.toArray 38)))
        have hX : Blk (wr.alloc (.cells a.cells.toArray 38)) wr.heap.size a.cells 38 := Blk.new _ _ _
        have HX := hd hX
        clear hX
        by_cases hk0 : a.kind = 0
        · rw [hk0] at c0
          have hac : a.cells = [.int .i64 0, .string a.s, .int .i64 a.n, .int .i64 a.k0, .int .i64 a.k1, .int .u8 a.turn.toNat] := by unfold Act.cells; rw [hk0]
          rw [hac] at HL1 HX
          clear hac
          go_wp2_with (fail)
          generalize wr.alloc (.cells #[.int .i64 0, .string a.s, .int .i64 a.n, .int .i64 a.k0, .int .i64 a.k1, .int .u8 a.turn.toNat] 38) = W1 at *
          have x0 := HX.out.cell 0
          have x1 := HX.out.cell 1
          have hltX := HX.out.lt
          clear c0 c1 c2 c3 c4 c5 HL
          cases hbr : L.broken with
          | true =>
            have HB := hd (last_broken HG.out a.s HL1.out hbr hx8)
            have HBr := hd hbr
            have HLP := hd (HL1.out.led.led HL1.out.mine)
            clear hbr
            refine (broken_led lb b s L fp fp _ _ HLP.out).mono ?_
            rintro e w' ⟨rfl, rfl⟩
            rw [HBr.out]
            go_wp2_with (first | (go_at_call 14; refine HB.out.mono ?_; rintro e wn ⟨rfl, fp', ha⟩; have HA' := hd ha; clear ha) | (go_at_call 11; refine (num4_any _ _).mono ?_; rintro e w' ⟨rfl, rfl⟩))
            exact ⟨⟨k + 1, lb, s, L, fp', B, N, all, more, by omega, rfl, rfl, rfl, by go_num, hd (HA'.out.more (by have := HT.out.1; omega))⟩, by simp [RowKit.intOf]; omega⟩
          | false =>
            have HBr := hd hbr
            have HLP := hd (HL1.out.led.led HL1.out.mine)
            clear hbr
            refine (broken_led lb b s L fp fp _ _ HLP.out).mono ?_
            rintro e w' ⟨rfl, rfl⟩
            rw [HBr.out]
            go_wp2_with (fail)
            have HVA := hd HL1.out.ra.row
            have X1 := hd x1
            have xE : (W1.alloc (.cells #[] 9)).cell? ⟨wr.heap.size, 1, none⟩ = some (.string a.s) := cell_alloc x1 _
            have hlen1 : all.length ≤ 1000 := by have := HL1.out.len; omega
            go_region_law (first
              | (refine step_append_row rfl (.tmp 78) (.tmp 79) 31 9 (.string ⟨#[]⟩) 16 rfl Tryd.underlying31 str_info rfl _ _ [] (all.map Value.string) rfl rfl (by first | exact (app_i W1).row | exact (app_ii W1 _).row | exact (app_iii W1 _).row) (by first | exact (HVA.out.alloc _).drew | exact ((HVA.out.alloc _).alloc _).drew) (strs_one all) (by simp; omega) (by simp; omega) ?_
                 intro v1 wa hr1 hg1 hb1
                 have S1 := AppSt.step (by first | exact app_i W1 | exact app_ii W1 _ | exact app_iii W1 _) hr1 hg1 hb1
                 have xw : wa.cell? ⟨wr.heap.size, 1, none⟩ = some (.string a.s) := (Below.cell S1.below hltX).trans X1.out
                 try have hlit := lit_grown (lit_ii W1 a.s) hg1 (by omega)
                 try have hlit := lit_grown (lit_iii W1 a.s) hg1 (by omega)
                 have HS1 := hd S1
                 clear hr1 hg1 hb1 S1)
              | (refine step_append_row rfl (.tmp 80) (.tmp 83) 31 9 (.string ⟨#[]⟩) 16 rfl Tryd.underlying31 str_info rfl _ _ ([] ++ all.map Value.string) [.string a.s] rfl rfl (by first | exact (HS1.out.alloc _).row | exact HS1.out.row) (by first | exact lit_row _ a.s | exact hlit) (by simp [Value.oneCell']) (by simp; omega) (by simp; omega) ?_
                 intro v2 w2 hr2 hg2 hb2
                 have S2 := AppSt.step (by first | exact HS1.out.alloc _ | exact HS1.out) hr2 hg2 hb2
                 have HS2 := hd S2
                 clear hr2 hg2 hb2 S2))
            all_goals
              have hlist : [] ++ all.map Value.string ++ [.string a.s] = (all ++ [a.s]).map Value.string := by simp
              rw [hlist] at HS2
              clear hlist
              have xw2 : w2.cell? ⟨wr.heap.size, 1, none⟩ = some (.string a.s) := (Below.cell HS2.out.below hltX).trans X1.out
              have HN := hd (HL1.out.appended HBr.out HS2.out)
              clear xE x0 x1
              go_wp2_with (fail)
              rcases last_add HG.out a.s HN.out HBr.out hx8 (by have := HT.out.2; have := HSM.out.2; have := totA_mono l k l.length (by omega); omega) hk50 with hadd | hadd
              · refine hadd.mono ?_
                rintro e wn ⟨rfl, s', L', fp', ha⟩
                have HA' := hd ha
                clear ha
                go_wp2_with (go_at_call 11; refine (num4_any _ _).mono ?_; rintro e w' ⟨rfl, rfl⟩)
                exact ⟨⟨k + 1, lb, s', L', fp', B, B, all ++ [a.s], all ++ [a.s], by omega, rfl, rfl, rfl, by go_num, hd (HA'.out.more (by have := HT.out.1; omega))⟩, by simp [RowKit.intOf]; omega⟩
              · refine hadd.mono ?_
                rintro e wn ⟨rfl, s', L', fp', ha⟩
                have HA' := hd ha
                clear ha
                go_wp2_with (go_at_call 11; refine (num4_any _ _).mono ?_; rintro e w' ⟨rfl, rfl⟩)
                exact ⟨⟨k + 1, lb, s', L', fp', B, B, all, all ++ [a.s], by omega, rfl, rfl, rfl, by go_num, hd (HA'.out.more (by have := HT.out.1; omega))⟩, by simp [RowKit.intOf]; omega⟩
        by_cases hk1 : a.kind = 1
        · rw [hk1] at c0
          have hac : a.cells = [.int .i64 1, .string a.s, .int .i64 a.n, .int .i64 a.k0, .int .i64 a.k1, .int .u8 a.turn.toNat] := by unfold Act.cells; rw [hk1]
          rw [hac] at HL1 HX
          clear hac
          go_wp2_with (fail)
          generalize wr.alloc (.cells #[.int .i64 1, .string a.s, .int .i64 a.n, .int .i64 a.k0, .int .i64 a.k1, .int .u8 a.turn.toNat] 38) = W1 at *
          have x0 := HX.out.cell 0
          have x1 := HX.out.cell 1
          have hltX := HX.out.lt
          clear c0 c1 c2 c3 c4 c5 HL
          cases hbr : L.broken with
          | true =>
            have HB := hd (last_broken HG.out a.s HL1.out hbr hx8)
            have HBr := hd hbr
            have HLP := hd (HL1.out.led.led HL1.out.mine)
            clear hbr
            refine (broken_led lb b s L fp fp _ _ HLP.out).mono ?_
            rintro e w' ⟨rfl, rfl⟩
            rw [HBr.out]
            go_wp2_with (first | (go_at_call 14; refine HB.out.mono ?_; rintro e wn ⟨rfl, fp', ha⟩; have HA' := hd ha; clear ha) | (go_at_call 11; refine (num4_any _ _).mono ?_; rintro e w' ⟨rfl, rfl⟩))
            exact ⟨⟨k + 1, lb, s, L, fp', B, N, all, more, by omega, rfl, rfl, rfl, by go_num, hd (HA'.out.more (by have := HT.out.1; omega))⟩, by simp [RowKit.intOf]; omega⟩
          | false =>
            have HBr := hd hbr
            have HLP := hd (HL1.out.led.led HL1.out.mine)
            clear hbr
            refine (broken_led lb b s L fp fp _ _ HLP.out).mono ?_
            rintro e w' ⟨rfl, rfl⟩
            rw [HBr.out]
            go_wp2_with (fail)
            have HN := hd ((HL1.out.next HBr.out a.s [] (.slice none 0 0) (HRow.nil _ _ _) (by simp)))
            rcases last_base HG.out a.s HN.out HBr.out hx8 (by have := HT.out.2; have := HSM.out.2; have := totA_mono l k l.length (by omega); omega) hk50 with hadd | hadd
            · refine hadd.mono ?_
              rintro e wn ⟨rfl, s', L', fp', ha⟩
              have HA' := hd ha
              clear ha
              go_wp2_with (go_at_call 11; refine (num4_any _ _).mono ?_; rintro e w' ⟨rfl, rfl⟩)
              exact ⟨⟨k + 1, lb, s', L', fp', a.s, a.s, [], [], by omega, rfl, rfl, rfl, by go_num, hd (HA'.out.more (by have := HT.out.1; omega))⟩, by simp [RowKit.intOf]; omega⟩
            · refine hadd.mono ?_
              rintro e wn ⟨rfl, s', L', fp', ha⟩
              have HA' := hd ha
              clear ha
              go_wp2_with (go_at_call 11; refine (num4_any _ _).mono ?_; rintro e w' ⟨rfl, rfl⟩)
              exact ⟨⟨k + 1, lb, s', L', fp', B, a.s, all, [], by omega, rfl, rfl, rfl, by go_num, hd (HA'.out.more (by have := HT.out.1; omega))⟩, by simp [RowKit.intOf]; omega⟩
        by_cases hk2 : a.kind = 2
        · rw [hk2] at c0
          have hac : a.cells = [.int .i64 2, .string a.s, .int .i64 a.n, .int .i64 a.k0, .int .i64 a.k1, .int .u8 a.turn.toNat] := by unfold Act.cells; rw [hk2]
          rw [hac] at HL1 HX
          clear hac hk0 hk1
          go_wp2_with (fail)
          refine (last_arm a.n HL1.out HOk.out.n0 HOk.out.n1).mono ?_
          rintro e wn ⟨rfl, fp', ha⟩
          have HA' := hd ha
          clear ha HL HL1 HX
          go_wp2_with (fail)
          exact ⟨⟨k + 1, lb, s.arm a.n, L, fp', B, N, all, more, by omega, rfl, rfl, rfl, by go_num, hd (HA'.out.more (by have := HT.out.1; omega))⟩, by simp [RowKit.intOf]; omega⟩
        by_cases hk3 : a.kind = 3
        · rw [hk3] at c0
          have hac : a.cells = [.int .i64 3, .string a.s, .int .i64 a.n, .int .i64 a.k0, .int .i64 a.k1, .int .u8 a.turn.toNat] := by unfold Act.cells; rw [hk3]
          rw [hac] at HL1 HX
          clear hac hk0 hk1
          by_cases ht0 : a.turn.toNat = 0
          · rw [ht0] at HL1 HX c5
            clear HL
            go_wp2_with (fail)
            generalize wr.alloc (.cells #[.int .i64 3, .string a.s, .int .i64 a.n, .int .i64 a.k0, .int .i64 a.k1, .int .u8 0] 38) = W1 at *
            clear c0 c1 c2 c3 c4 c5
            have HCR := hd (last_crash HG.out a.k0 a.k1 HL1.out)
            clear HL1 HX
            refine HCR.out.mono ?_
            rintro e w5 ⟨rfl, ho⟩
            have HO := hd ho
            clear ho HCR
            go_wp2_with (fail)
            refine HO.out.mono ?_
            rintro e w6 ⟨lb', F, out, v', s', L', fp', rfl, hLA, hor, hra, hrm⟩
            have HLA := hd hLA
            obtain ⟨Ao, co, rfl, h1, h2⟩ := hLA.ra.reads
            obtain ⟨Aa, ca, rfl, h3, h4⟩ := hra.reads
            obtain ⟨Am, cm, rfl, h5, h6⟩ := hrm.reads
            have hol : out.length ≤ 1000000 := by have := hLA.len; omega
            have HSA := hd (same_call (l0 := out) (l1 := all) ⟨rfl, h1, h2⟩ ⟨rfl, h3, h4⟩ hol)
            have HSB := hd (fun n => same_call (l0 := out) (l1 := more) (w := w6.drewN n) ⟨rfl, h1, Kd.C_drewN h2 n⟩ ⟨rfl, h5, Kd.C_drewN h6 n⟩ hol)
            have HOR := hd hor
            clear hLA hor hra hrm h1 h2 h3 h4 h5 h6 HO
            rcases HOR.out with ⟨rfl, rfl⟩ | ⟨rfl, rfl⟩
            · go_wp2_with (first | (go_at_call 11; refine (num4_any _ _).mono ?_; rintro e w' ⟨rfl, rfl⟩) | (go_at_call 18; refine HSA.out.mono ?_; rintro e w7 ⟨rfl, n7, rfl⟩; clear HSA) | (go_at_call 18; refine (HSB.out _).mono ?_; rintro e w7 ⟨rfl, n8, rfl⟩))
              all_goals exact ⟨⟨k + 1, lb', s', L', fp', F, F, out, out, by omega, rfl, rfl, rfl, by go_num, hd ((HLA.out.below (by first | exact below_drewN0 _ _ | exact Below.refl _ _ | exact (below_drewN0 _ _).trans (below_drewN0 _ _))).more (by have := HT.out.1; omega))⟩, by simp [RowKit.intOf]; omega⟩
            · by_cases hNB : F.toList = B.toList
              · have q1 : (F.toList == B.toList) = true := beq_iff_eq.2 hNB
                by_cases hoa : out = all
                · have q2 : decide (out = all) = true := decide_eq_true hoa
                  clear hoa hNB HSB
                  go_wp2_with (first | (go_at_call 11; refine (num4_any _ _).mono ?_; rintro e w' ⟨rfl, rfl⟩) | (go_at_call 18; refine HSA.out.mono ?_; rintro e w7 ⟨rfl, n7, rfl⟩; clear HSA) | (go_at_call 18; refine (HSB.out _).mono ?_; rintro e w7 ⟨rfl, n8, rfl⟩))
                  all_goals exact ⟨⟨k + 1, lb', s', L', fp', F, F, out, out, by omega, rfl, rfl, rfl, by go_num, hd ((HLA.out.below (by first | exact below_drewN0 _ _ | exact Below.refl _ _ | exact (below_drewN0 _ _).trans (below_drewN0 _ _))).more (by have := HT.out.1; omega))⟩, by simp [RowKit.intOf]; omega⟩
                · have q2 : decide (out = all) = false := decide_eq_false hoa
                  clear hoa hNB
                  go_wp2_with (first | (go_at_call 11; refine (num4_any _ _).mono ?_; rintro e w' ⟨rfl, rfl⟩) | (go_at_call 18; refine HSA.out.mono ?_; rintro e w7 ⟨rfl, n7, rfl⟩; clear HSA) | (go_at_call 18; refine (HSB.out _).mono ?_; rintro e w7 ⟨rfl, n8, rfl⟩))
                  all_goals exact ⟨⟨k + 1, lb', s', L', fp', F, F, out, out, by omega, rfl, rfl, rfl, by go_num, hd ((HLA.out.below (by first | exact below_drewN0 _ _ | exact Below.refl _ _ | exact (below_drewN0 _ _).trans (below_drewN0 _ _))).more (by have := HT.out.1; omega))⟩, by simp [RowKit.intOf]; omega⟩
              · have q1 : (F.toList == B.toList) = false := beq_eq_false_iff_ne.2 hNB
                clear hNB HSA
                go_wp2_with (first | (go_at_call 11; refine (num4_any _ _).mono ?_; rintro e w' ⟨rfl, rfl⟩) | (go_at_call 18; refine (HSB.out 0).mono ?_; rintro e w7 ⟨rfl, n8, rfl⟩))
                all_goals exact ⟨⟨k + 1, lb', s', L', fp', F, F, out, out, by omega, rfl, rfl, rfl, by go_num, hd ((HLA.out.below (by first | exact below_drewN0 _ _ | exact Below.refl _ _ | exact (below_drewN0 _ _).trans (below_drewN0 _ _))).more (by have := HT.out.1; omega))⟩, by simp [RowKit.intOf]; omega⟩
          · have ht1 : (((a.turn.toNat : Nat) : Int) != 0) = true := bne_iff_ne.2 (by omega)
            go_wp2_with (go_at_call 9; refine (LV.out _ HL1.out.mine.below).mono ?_; rintro e w1 ⟨rfl, hl⟩)
            go_ret
            exact ⟨rfl, hl⟩
        have e0 : (a.kind == 0) = false := beq_eq_false_iff_ne.2 hk0
        have e1 : (a.kind == 1) = false := beq_eq_false_iff_ne.2 hk1
        have e2 : (a.kind == 2) = false := beq_eq_false_iff_ne.2 hk2
        have e3 : (a.kind == 3) = false := beq_eq_false_iff_ne.2 hk3
        have HL2 := hd ((HL1.out.later).more (u' := 140 + totA l (k + 1) + 140 * (k + 1)) (by have := HT.out.1; omega))
        clear HL HX HL1
        go_wp2_with (fail)
        exact ⟨⟨k + 1, lb, s, L, fp, B, N, all, more, by omega, rfl, rfl, rfl, by go_num, HL2⟩, by simp [RowKit.intOf]; omega⟩
      · obtain rfl : k = l.length := by omega
        go_wp2_with (go_at_call 9; refine (LV.out _ HL.out.mine.below).mono ?_; rintro e w1 ⟨rfl, hl⟩)
        go_ret
        exact ⟨rfl, hl⟩
/-- As the row wants it. -/
theorem lasts_walk {H : Type} {enc : TypeId × Value → H} (W : World) (hG : Gl W) (v : Value) (ho : ∃ A n c, v = .slice A n c) {d : DataW H} {p : List MemPlace} (h : DataW.Trod enc Tryd.prog W 0 (fun _ => true) true 22 v d p) (hl : Light Tryd.prog 22 d) :
    Calls Tryd.prog 3 #[v] W fun e w' => e = .returned (.bool true) ∧ Below W.heap.size W w' := by
  obtain ⟨A, l, c, rfl, hn, hA⟩ := open_acts ho h hl
  exact lasts_core W hG A c l hA hn
end Go.Proofs.YtjmejamgbinigaaDoor
