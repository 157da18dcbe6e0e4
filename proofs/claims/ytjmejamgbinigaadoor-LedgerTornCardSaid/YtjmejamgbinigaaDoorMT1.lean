/-
  Lemmas, joined of the texts Acts4 Small4 WLAll LLast LT1 LT2 LTell KR XRp0 XRp1 XRp KP WLTorn.
-/
import Derived.Test.YtjmejamgbinigaaDoorMB17
import Derived.Test.YtjmejamgbinigaaDoorMB16
import Derived.Lib.ConvBytes
import Derived.Test.YtjmejamgbinigaaDoorMB12
import Derived.Deep.RegionWith
import Derived.Test.YtjmejamgbinigaaDoorProg
import Derived.Test.YtjmejamgbinigaaDoorMB1
import Derived.Below
import Derived.Deep.Draws
import Derived.Deep.AppendLies
import Derived.Maps.AppendAt
import Derived.OwnWalk
import Derived.Laws.BytesArg
import Derived.Laws.MakeOwn
import Derived.Laws.OwnMore
import Derived.Deep.OwnRows
import Derived.Tactics
import Derived.Laws.Slices
import Derived.WalkKit
import Derived.KernelRfl
import Derived.RowKit3
import Derived.Deep.LoopGhost
import Derived.Deep.QuietTactic
import Derived.BigQuiet
import Derived.WideLaws
import Derived.Deep.DeepCutAuto
import Derived.Deep.CutBlock
import Derived.Deep.RegionHeld3
import Derived.Laws.Rows
import Derived.Lib.AppendStr
import Derived.ArgAppend
import Derived.Laws.IdiomCopy
import Derived.OrdersHeld
import Derived.Laws.BitsLemmas
import Derived.RowKit
import Derived.Test.YtjmejamgbinigaaDoorMB11
import Derived.Test.YtjmejamgbinigaaDoorWWords
import Derived.Test.YtjmejamgbinigaaDoorWLast
import Derived.Test.YtjmejamgbinigaaDoorWTab
import Derived.Test.YtjmejamgbinigaaDoorWFour
import Derived.Test.YtjmejamgbinigaaDoorWQPut
import Derived.Test.YtjmejamgbinigaaDoorWApart
import Derived.Test.YtjmejamgbinigaaDoorWArr
import Derived.Test.YtjmejamgbinigaaDoorWZeros
import Derived.Test.YtjmejamgbinigaaDoorWFoot
import Derived.Test.YtjmejamgbinigaaDoorWKept
import Derived.Test.YtjmejamgbinigaaDoorWShare
import Derived.Test.YtjmejamgbinigaaDoorWN
import Derived.Test.YtjmejamgbinigaaDoorWFootNe
import Derived.Test.YtjmejamgbinigaaDoorWAt
import Derived.Test.YtjmejamgbinigaaDoorWEqStruct
import Derived.Test.YtjmejamgbinigaaDoorWRepsOne
import Derived.Test.YtjmejamgbinigaaDoorWInv
import Derived.Test.YtjmejamgbinigaaDoorWInvWords
import Derived.Test.YtjmejamgbinigaaDoorWGuard
import Derived.Test.YtjmejamgbinigaaDoorWNEv
import Derived.Test.YtjmejamgbinigaaDoorWMore
import Derived.Test.YtjmejamgbinigaaDoorMB13
namespace Go.Proofs.YtjmejamgbinigaaDoor
set_option linter.unusedVariables false
set_option linter.unusedSimpArgs false
open Go.RowKit

structure Act where
  kind : Int
  s : ByteArray
  n : Int
  k0 : Int
  k1 : Int
  turn : UInt8

namespace Act
def cells (a : Act) : List Value := [.int .i64 a.kind, .string a.s, .int .i64 a.n, .int .i64 a.k0, .int .i64 a.k1, .int .u8 a.turn.toNat]
structure Ok (a : Act) : Prop where
  n0 : -9223372036854775808 ≤ a.n
  n1 : a.n ≤ 9223372036854775807
  s : a.s.size ≤ 140737488351232
end Act
instance : Inhabited Act := ⟨⟨0, ⟨#[]⟩, 0, 0, 0, 0⟩⟩

/-- Acts in memory: six cells each. -/
structure ActsAt (w : World) (A : Option Addr) (l : List Act) : Prop where
  ok : ∀ a ∈ l, a.Ok
  addr : l ≠ [] → ∃ b off, A = some ⟨b, off, none⟩
  cell : ∀ (b off i j : Nat) (a : Act) (v : Value), A = some ⟨b, off, none⟩ → l[i]? = some a → a.cells[j]? = some v → w.cell? ⟨b, off + (i * 6 + j), none⟩ = some v

theorem ActsAt.below {w w' : World} {A : Option Addr} {l : List Act} (h : ActsAt w A l) (hb : Below w.heap.size w w') : ActsAt w' A l :=
  ⟨h.ok, h.addr, fun b off i j a v hA hi hj => by
    have := h.cell b off i j a v hA hi hj
    exact (hb.cell (World.block_lt_of_cell? w _ this)).trans this⟩

theorem i64_bd {n : Int} (h : (Lit.int .i64 n).wf = true) : -9223372036854775808 ≤ n ∧ n ≤ 9223372036854775807 := by
  simpa [Lit.wf, IntKind.min, IntKind.max, IntKind.signed, IntKind.bits] using h
theorem u8_of' (x : Int) (h : (Lit.int .u8 x).wf = true) : ∃ y : UInt8, x = y.toNat := by
  have hb : 0 ≤ x ∧ x ≤ 255 := by simpa [Lit.wf, IntKind.min, IntKind.max, IntKind.signed, IntKind.bits] using h
  refine ⟨UInt8.ofNat x.toNat, ?_⟩
  simp
  omega

section
variable {H : Type} {enc : TypeId × Value → H} {w : World} {spare : Nat → Bool} {held : Bool}

theorem act_leaves : leaves Tryd.prog 4 38 = [.int .i64, .str, .int .i64, .int .i64, .int .i64, .int .u8] := by kernel_rfl
theorem act_flat : flatB Tryd.prog 4 38 = true := by kernel_rfl
theorem act_cells : Tryd.prog.cellsOf 38 = 6 := by kernel_rfl

theorem act_of {cs : List Value} (h : LeafAll enc Tryd.prog w 0 spare held [.int .i64, .str, .int .i64, .int .i64, .int .i64, .int .u8] cs) : ∃ a : Act, cs = a.cells ∧ a.Ok := by
  rcases cs with _ | ⟨c0, _ | ⟨c1, _ | ⟨c2, _ | ⟨c3, _ | ⟨c4, _ | ⟨c5, _ | ⟨c6, r⟩⟩⟩⟩⟩⟩⟩
  all_goals try (have := h.length; simp at this; done)
  obtain ⟨⟨x0, rfl, _⟩, ⟨x2, rfl, w2⟩, ⟨x3, rfl, w3⟩, ⟨x4, rfl, _⟩, ⟨x5, rfl, _⟩, ⟨x6, rfl, w6⟩, _⟩ := h
  obtain ⟨y, rfl⟩ := u8_of' x6 w6
  have b := i64_bd w3
  exact ⟨⟨x0, x2, x3, x4, x5, y⟩, rfl, ⟨b.1, b.2, w2⟩⟩

set_option maxRecDepth 100000 in
theorem open_acts {v : Value} {d : DataW H} {p : List MemPlace} (hv0 : ∃ A n c, v = .slice A n c) (h : DataW.Trod enc Tryd.prog w 0 spare held 22 v d p) (hl : Light Tryd.prog 22 d) :
    ∃ A l c, v = .slice A l.length c ∧ l.length ≤ 140737488351232 ∧ ActsAt w A l := by
  rcases open_rows 4 6 Tryd.underlying22 act_cells act_flat hv0 h hl with rfl | ⟨a, len, cap, C, rfl, _, _, hlen, hC⟩
  · exact ⟨none, [], 0, rfl, by simp, ⟨by simp, fun h => absurd rfl h, fun b off i j a v hA => by cases hA⟩⟩
  · rw [act_leaves] at hC
    obtain ⟨F, hF⟩ := Deep.choose_lt (α := Act) (n := len) (p := fun i x => C i = x.cells ∧ x.Ok) (fun i hi => act_of (hC i hi).1)
    have hb : Tryd.prog.bytesOf 38 = 56 := by kernel_rfl
    rw [hb] at hlen
    refine ⟨some a, (List.range len).map F, cap, by simp, by simp; omega, ⟨?_, ?_, ?_⟩⟩
    · intro x hx
      obtain ⟨i, hi, rfl⟩ := List.mem_map.1 hx
      exact (hF i (List.mem_range.1 hi)).2
    · intro hne
      have h0 : 0 < len := by
        rcases Nat.eq_zero_or_pos len with h0 | h0
        · subst h0; exact absurd rfl hne
        · exact h0
      have := (hC 0 h0).2.2 0 (by omega)
      rw [(hF 0 h0).1] at this
      have ha := plain_addr (a := a.add (0 * 6 + 0)) (this.trans rfl)
      have h00 : a.add (0 * 6 + 0) = a := by unfold Addr.add; simp
      rw [h00] at ha
      exact ⟨a.block, a.off, by rw [← ha]⟩
    · intro b off i j x v hA hi hj
      injection hA with hA
      subst hA
      have hil : i < len := by
        have := (List.getElem?_eq_some_iff.1 hi).1
        simpa using this
      have hx : F i = x := by simpa [hil] using hi
      have hj7 : j < 6 := by
        have := (List.getElem?_eq_some_iff.1 hj).1
        simpa [Act.cells] using this
      have := (hC i hil).2.2 j hj7
      rw [(hF i hil).1, hx, add_off, hj] at this
      exact this
end
end Go.Proofs.YtjmejamgbinigaaDoor
namespace Go.Proofs.YtjmejamgbinigaaDoor
set_option linter.unusedVariables false
set_option linter.unusedSimpArgs false
open Go.RowKit

def totA (l : List Act) (k : Nat) : Nat := ((l.take k).map (·.s.size)).sum
theorem totA_succ (l : List Act) (k : Nat) (a : Act) (h : l[k]? = some a) : totA l (k + 1) = totA l k + a.s.size := by
  unfold totA
  rw [List.take_add_one, h]
  simp
theorem totA_le (l : List Act) (k j : Nat) (a : Act) (h : l[j]? = some a) (hj : j < k) : a.s.size ≤ totA l k := by
  induction k with
  | zero => omega
  | succ k ih =>
    rcases Nat.lt_or_ge j k with h1 | h1
    · have := ih h1
      cases hk : l[k]? with
      | none =>
        unfold totA at *
        rw [List.take_add_one, hk]
        simpa using this
      | some b => rw [totA_succ l k b hk]; omega
    · obtain rfl : j = k := by omega
      rw [totA_succ l j a h]; omega

theorem totA_mono (l : List Act) (j k : Nat) (h : j ≤ k) : totA l j ≤ totA l k := by
  induction k with
  | zero => rw [show j = 0 by omega]; exact Nat.le_refl _
  | succ k ih =>
    rcases Nat.lt_or_ge j (k + 1) with h1 | h1
    · refine Nat.le_trans (ih (by omega)) ?_
      cases hk : l[k]? with
      | none => unfold totA; rw [List.take_add_one, hk]; simp
      | some b => rw [totA_succ l k b hk]; omega
    · rw [show j = k + 1 by omega]; exact Nat.le_refl _
def SmallPost (l : List Act) (w : World) (e : Ending) (w' : World) : Prop := ∃ b, e = .returned (.bool b) ∧ (b = true → l.length ≤ 50 ∧ totA l l.length ≤ 8000) ∧ w = w'

set_option maxHeartbeats 800000 in
theorem small_any (A : Option Addr) (l : List Act) (cap : Nat) (w : World) (hA : ActsAt w A l) (hlen : l.length ≤ 140737488351232) :
    Calls Tryd.prog 8 #[.slice A l.length cap] w (SmallPost l w) := by
  have HA := hd hA
  clear hA
  go_enter Tryd.func8, Tryd.ntmps8
  go_wp2
  go_loop [3, 4] (fun n i => ∃ k : Nat, k ≤ l.length ∧ k ≤ 51 ∧ totA l k ≤ 140737488400000 ∧ i = .int .i64 k ∧ n = .int .i64 (totA l k)) (fun _ i => 51 - (intOf i).toNat)
  case atStart => exact ⟨0, by omega, by omega, by simp [totA], rfl, rfl⟩
  case round =>
    obtain ⟨k, hk, h61, ht, rfl, rfl⟩ := hrel
    by_cases hlt : k < l.length ∧ k ≤ 50 ∧ totA l k ≤ 8000
    · obtain ⟨h1, h2, h3⟩ := hlt
      obtain ⟨b, off, rfl⟩ := HA.out.addr (by intro h; rw [h] at h1; simp at h1)
      obtain ⟨a, ha⟩ : ∃ a, l[k]? = some a := ⟨_, List.getElem?_eq_getElem h1⟩
      have hc : w.cell? ⟨b, off + k * 6 + 1, none⟩ = some (.string a.s) := by
        have := HA.out.cell b off k 1 a _ rfl ha rfl
        rwa [← Nat.add_assoc] at this
      have hs := (HA.out.ok a (List.mem_of_getElem? ha)).s
      have HT := hd (totA_succ l k a ha)
      clear ha
      generalize totA l k = m at *
      go_wp2
      go_round
      case rel => exact ⟨k + 1, by omega, by omega, by rw [HT.out]; omega, by go_num, by rw [HT.out]; go_num⟩
      case measure => simp [intOf]; omega
    · by_cases h1 : k < l.length
      · by_cases h2 : k ≤ 50
        · have h3 : ¬ totA l k ≤ 8000 := fun h => hlt ⟨h1, h2, h⟩
          clear hlt
          generalize totA l k = m at *
          go_wp2
          all_goals
            go_ret
            exact ⟨_, rfl, fun h => by simp at h <;> omega, rfl⟩
        · clear hlt
          generalize totA l k = m at *
          go_wp2
          all_goals
            go_ret
            exact ⟨_, rfl, fun h => by simp at h <;> omega, rfl⟩
      · obtain rfl : k = l.length := by omega
        have HT := hd (fun j a (hj : l[j]? = some a) => totA_le l l.length j a hj (List.getElem?_eq_some_iff.1 hj).1)
        clear hlt
        obtain ⟨m, hm⟩ : ∃ m, totA l l.length = m := ⟨_, rfl⟩
        have HM := hd hm
        rw [hm] at ht ⊢
        clear hm HT
        by_cases h6 : l.length ≤ 50
        · by_cases h7 : m ≤ 8000
          · go_wp2
            go_ret
            exact ⟨_, rfl, fun _ => ⟨h6, by have := HM.out; omega⟩, rfl⟩
          · go_wp2
            go_ret
            exact ⟨_, rfl, fun h => by simp at h <;> omega, rfl⟩
        · go_wp2
          all_goals
            go_ret
            exact ⟨_, rfl, fun h => by simp at h <;> omega, rfl⟩
end Go.Proofs.YtjmejamgbinigaaDoor
namespace Go.Proofs.YtjmejamgbinigaaDoor
set_option linter.unusedVariables false
set_option linter.unusedSimpArgs false
open Go.RowKit Go.Proofs.YtjmejamgbinigaaDoorW.PrintWords Go.Proofs.YtjmejamgbinigaaDoorW.PrintLast
/-- The live law at a law's end. -/
def LiveAt (w : World) : Prop := ∀ w', Below w.heap.size w w' → Calls Tryd.prog 9 #[] w' fun e w2 => e = .returned (.bool true) ∧ Below w.heap.size w w2
theorem live_at {w : World} (hG : Gl w) : LiveAt w := fun w' hb => live4_any w w' hG hb
/-- The ledger behind k records. -/
structure AllAt (w0 w : World) (base : ByteArray) (l : List ByteArray) (k : Nat) (b lb : Nat) (s : RS) (L : LS) (fp : List Nat) : Prop where
  mine : MineL w0 w b s fp
  led : Lg w0 w b fp lb L
  clean : Clean s L (bsL base) ((l.take k).map bsL)
  epoch : L.epoch = 2
  left : s.left = -1
  room : s.room = 4194304
  used : s.used ≤ 280 + base.size + tot l k + 140 * k
theorem AllAt.recs {w0 w : World} {base : ByteArray} {l : List ByteArray} {k b lb : Nat} {s : RS} {L : LS} {fp : List Nat} (h : AllAt w0 w base l k b lb s L fp) (hk : k ≤ l.length) : L.recs = k := by
  rw [h.clean.n]
  simp
  omega
theorem all_next {w0 w : World} {base : ByteArray} {l : List ByteArray} {k b lb : Nat} {s : RS} {L : LS} {fp : List Nat} (hG : Gl w0) (h : AllAt w0 w base l k b lb s L fp) (x : ByteArray) (hx : l[k]? = some x) (h50 : l.length ≤ 50) (ht : base.size + tot l l.length ≤ 8000) :
    Calls Tryd.prog 14 #[.pointer (some ⟨lb, 0, none⟩), .string x] w fun r w' => r = .returned (.int .i64 0) ∧ ∃ s' L' fp', AllAt w0 w' base l (k + 1) b lb s' L' fp' := by
  have hk := (List.getElem?_eq_some_iff.1 hx).1
  have ts := tot_succ l k x hx
  have tm := tot_mono l (k + 1) l.length hk
  have hu := h.used
  have zx := bs_size x
  have zx' : (bsL x).length = x.size := zx.symm
  rcases h.clean.add (bsL x) (by omega) (by rw [free_eq, h.room]; omega) (by simp; omega) with ⟨s', L', ha, hc, t1, t2, t3, t4, t5, t6⟩ | ⟨q, _⟩
  · refine (own_add hG h.mine h.led h.clean.lok x (by omega) s' L' 0 ha).mono ?_
    rintro r w' ⟨rfl, fp', hm, hl, _⟩
    refine ⟨rfl, s', L', fp', hm, hl, ?_, t2.trans h.epoch, t6 h.left, t4.trans h.room, by omega⟩
    rw [take_map_succ l k x hx]
    exact hc
  · exact absurd h.left q
theorem all_end {w0 w : World} {base : ByteArray} {l : List ByteArray} {b lb : Nat} {s : RS} {L : LS} {fp : List Nat} (hG : Gl w0) (h : AllAt w0 w base l l.length b lb s L fp) :
    Calls Tryd.prog 17 #[.pointer (some ⟨b, 0, none⟩), .agg #[.int .i64 0, .int .i64 0, .int .u8 0]] w fun r w1 => r = .returned (.tuple #[]) ∧
      ∀ n, Calls Tryd.prog 12 #[.pointer (some ⟨b, 0, none⟩)] (w1.drewN n) fun r w2 => ∃ lb' v s' L' fp' B, r = .returned (.tuple #[.pointer (some ⟨lb', 0, none⟩), .string base, v, .int .i64 0]) ∧ MineL w0 w2 b s' fp' ∧ Lg w0 w2 b fp' lb' L' ∧ L'.epoch = 2 ∧ L'.recs = l.length ∧
        Kd.R Kd.string 9 w2 B (fun _ => True) v l := by
  obtain ⟨s3, L3, o3, c3, f3, p3, e3, t3, l3, m3, u3⟩ := (h.clean.after 0 0 0).open_
  refine (own_crash h.mine 0 0 0).mono ?_
  rintro r w1 ⟨rfl, fp1, hm, _⟩
  refine ⟨rfl, fun n => ?_⟩
  refine (own_open hG (hm.drewN n) s3 L3 _ _ _ _ o3 f3 p3).mono ?_
  rintro r w2 ⟨fp', lb', v, B, rfl, hm2, hl2, _, _, hv, _⟩
  have hl : ((l.take l.length).map bsL).map str = l := by rw [List.take_length, map_back]
  rw [hl] at hv
  rw [of_bs]
  refine ⟨lb', v, s3, L3, fp', B, rfl, hm2, hl2, e3.trans h.epoch, ?_, Kd.R_mono hv (fun _ _ => trivial)⟩
  rw [c3.n]
  simp
/-- From the new reel to the first base. -/
theorem all_first {w0 w : World} (hG : Gl w0) {b : Nat} {fp : List Nat} (h : MineL w0 w b (RS.new 4194304) fp) :
    Calls Tryd.prog 12 #[.pointer (some ⟨b, 0, none⟩)] w fun r w1 => ∃ lb v, r = .returned (.tuple #[.pointer (some ⟨lb, 0, none⟩), .string (str []), v, .int .i64 0]) ∧ ∃ s L fp', MineL w0 w1 b s fp' ∧ Lg w0 w1 b fp' lb L ∧ Clean s L [] [] ∧ L.epoch = 1 ∧ s.left = -1 ∧ s.room = 4194304 ∧ s.used ≤ 140 := by
  obtain ⟨s1, L1, o1, c1, f1, p1, e1, t1, r1, l1, m1, u1⟩ := new_open 4194304 (by omega) (by omega)
  refine (own_open hG h s1 L1 _ _ _ _ o1 f1 p1).mono ?_
  rintro r w2 ⟨fp', lb', v, B, rfl, hm2, hl2, _⟩
  exact ⟨lb', v, rfl, s1, L1, fp', hm2, hl2, c1, e1, l1, m1, u1⟩
theorem all_base {w0 w : World} (hG : Gl w0) {b lb : Nat} {fp : List Nat} {s : RS} {L : LS} (hm : MineL w0 w b s fp) (hl : Lg w0 w b fp lb L) (hc : Clean s L [] []) (he : L.epoch = 1) (hleft : s.left = -1) (hr : s.room = 4194304) (hu : s.used ≤ 140) (base : ByteArray) (l : List ByteArray) (hb : base.size ≤ 8000) :
    Calls Tryd.prog 15 #[.pointer (some ⟨lb, 0, none⟩), .string base] w fun r w' => r = .returned (.int .i64 0) ∧ ∃ s' L' fp', AllAt w0 w' base l 0 b lb s' L' fp' := by
  have zx := bs_size base
  have zx' : (bsL base).length = base.size := zx.symm
  rcases hc.base (bsL base) (by omega) (by rw [free_eq, hr]; omega) (by omega) with ⟨s', L', ha, hc', t1, t2, t3, t4, t5, t6⟩ | ⟨q, _⟩
  · refine (own_base hG hm hl hc.lok base (by omega) s' L' 0 ha).mono ?_
    rintro r w' ⟨rfl, fp', hm', hl', _⟩
    refine ⟨rfl, s', L', fp', hm', hl', ?_, by rw [t2, he]; rfl, t6 hleft, t4.trans hr, ?_⟩
    · simpa using hc'
    · have : tot l 0 = 0 := by simp [tot]
      omega
  · exact absurd hleft q
set_option maxHeartbeats 3200000 in
theorem all_core (w : World) (hG : Gl w) (A : Option Addr) (c : Nat) (l : List ByteArray) (hc : l.length ≤ c) (hC : Kd.C Kd.string w A l.length l) (hlen : l.length ≤ 140737488351232) (hsz : ∀ x ∈ l, x.size ≤ 140737488351232) (base : ByteArray) (hb : base.size ≤ 140737488351232) :
    Calls Tryd.prog 5 #[.slice A l.length c, .string base] w fun e w' => e = .returned (.bool true) ∧ Below w.heap.size w w' := by
  have LV := hd (live_at hG)
  have HG := hd hG
  have HC := hd hC
  have HZ := hd hsz
  have HCC := hd hc
  clear hG hC hsz hc
  go_enter Tryd.func5, Tryd.ntmps5
  go_wp2
  go_loop [5, 6] (fun n i => ∃ k : Nat, k ≤ l.length ∧ k ≤ 51 ∧ base.size + tot l k ≤ 281474976710656 ∧ i = .int .i64 k ∧ n = .int .i64 ((base.size + tot l k : Nat) : Int)) (fun _ i => 51 - (intOf i).toNat)
  case atStart => exact ⟨0, by omega, by omega, by simp [tot]; omega, rfl, by simp [tot]⟩
  case round =>
    obtain ⟨k, hk, h51, ht, rfl, rfl⟩ := hrel
    by_cases h1 : k < l.length
    · obtain ⟨x, hx⟩ : ∃ x, l[k]? = some x := ⟨_, List.getElem?_eq_getElem h1⟩
      obtain ⟨ad, rfl, hcell⟩ := strl_at HC.out (Below.refl _ _) k x hx
      have hsx := HZ.out x (List.mem_of_getElem? hx)
      have HT := hd (tot_succ l k x hx)
      clear hx
      obtain ⟨m, hm⟩ : ∃ m, base.size + tot l k = m := ⟨_, rfl⟩
      have HM := hd hm
      rw [hm] at ht ⊢
      by_cases h2 : k ≤ 50
      · by_cases h3 : m ≤ 8000
        · clear hm
          go_wp2
          go_round
          case rel => exact ⟨k + 1, by omega, by omega, by have := HT.out; have := HM.out; omega, by go_num, by rw [show base.size + tot l (k + 1) = m + x.size by have := HT.out; have := HM.out; omega]; go_num⟩
          case measure => simp [intOf]; omega
        · clear hm
          go_wp2_with (go_at_call 9; refine (LV.out _ (Below.refl _ _)).mono ?_; rintro e w1 ⟨rfl, hl⟩)
          all_goals
            go_ret
            exact ⟨rfl, hl⟩
      · clear hm
        have h52 : (50 : Int) < l.length := by omega
        go_wp2_with (go_at_call 9; refine (LV.out _ (Below.refl _ _)).mono ?_; rintro e w1 ⟨rfl, hl⟩)
        all_goals
          go_ret
          exact ⟨rfl, hl⟩
    · obtain rfl : k = l.length := by omega
      obtain ⟨m, hm⟩ : ∃ m, base.size + tot l l.length = m := ⟨_, rfl⟩
      have HM := hd hm
      rw [hm] at ht ⊢
      clear hm
      by_cases h4 : l.length ≤ 50 ∧ m ≤ 8000
      · obtain ⟨h50, h8⟩ := h4
        go_wp2_with (go_at_call 11; refine (num4_any _ _).mono ?_; rintro e w' ⟨rfl, rfl⟩)
        refine (own_new 4194304 w _ (Below.refl _ _) (by decide) (by decide)).mono ?_
        rintro e w1 ⟨b, fp1, rfl, hm, _⟩
        have HM1 := hd hm
        clear hm
        go_wp2_with (go_at_call 11; refine (num4_any _ _).mono ?_; rintro e w' ⟨rfl, rfl⟩)
        refine (all_first HG.out HM1.out).mono ?_
        rintro e w2 ⟨lb, v2, rfl, s2, L2, fp2, hm, hl, hcl, he, hlf, hr, hu⟩
        have HA2 := hd (all_base HG.out hm hl hcl he hlf hr hu base l (by have := HM.out; omega))
        clear hm hl hcl he hlf hr hu HM1
        go_wp2_with (go_at_call 11; refine (num4_any _ _).mono ?_; rintro e w' ⟨rfl, rfl⟩)
        refine HA2.out.mono ?_
        rintro e w3 ⟨rfl, s3, L3, fp3, ha⟩
        have HA3 := hd ha
        clear ha HA2
        go_wp2_with (go_at_call 11; refine (num4_any _ _).mono ?_; rintro e w' ⟨rfl, rfl⟩)
        go_loopw [13] (fun i wr => ∃ (k : Nat) (s : RS) (L : LS) (fp : List Nat), k ≤ l.length ∧ i = .int .i64 k ∧ Hd (AllAt w wr base l k b lb s L fp)) (fun i _ => l.length - (RowKit.intOf i).toNat)
        case atStart => exact ⟨0, s3, L3, fp3, by omega, rfl, HA3⟩
        case round =>
          obtain ⟨k, s, L, fp, hk, rfl, HA⟩ := hrel
          clear HA3
          by_cases hlt : k < l.length
          · obtain ⟨x, hx⟩ : ∃ x, l[k]? = some x := ⟨_, List.getElem?_eq_getElem hlt⟩
            obtain ⟨ad, rfl, hcell⟩ := strl_at HC.out HA.out.mine.below k x hx
            have HN := hd (all_next HG.out HA.out x hx h50 (by have := HM.out; omega))
            clear hx
            go_wp2_with (first | (go_at_call 11; refine (num4_any _ _).mono ?_; rintro e w' ⟨rfl, rfl⟩) | (go_at_call 14; refine HN.out.mono ?_; rintro e wn ⟨rfl, s', L', fp', ha⟩; have HA' := hd ha; have hrec := ha.recs (by omega); clear ha) | (go_at_call 22; refine (Tryd.ledRecords lb b s' L' fp' fp' _ _ (HA'.out.led.led HA'.out.mine)).mono ?_; rintro e wn2 ⟨rfl, rfl⟩))
            go_roundw
            case rel => exact ⟨k + 1, s', L', fp', by omega, by go_num, HA'⟩
            case measure => simp [RowKit.intOf]; omega
          · obtain rfl : k = l.length := by omega
            have HE := hd (all_end HG.out HA.out)
            clear HA
            go_wp2_with (go_at_call 11; refine (num4_any _ _).mono ?_; rintro e w' ⟨rfl, rfl⟩)
            refine HE.out.mono ?_
            rintro e w5 ⟨rfl, ho⟩
            have HO := hd (ho 0)
            clear ho HE
            go_wp2_with (go_at_call 11; refine (num4_any _ _).mono ?_; rintro e w' ⟨rfl, rfl⟩)
            refine HO.out.mono ?_
            rintro e w6 ⟨lb', v', s', L', fp', B, rfl, hm, hl, he, hr, hv⟩
            obtain ⟨A6, c6, rfl, hc6, hC6⟩ := Kd.R_reads hv
            have HS := hd (same_call (l0 := l) (l1 := l) ⟨rfl, hc6, hC6⟩ ⟨rfl, HCC.out, Kd.C_below HC.out hm.below⟩ (by omega))
            have HLD := hd (fun n => (hl.drewN n).led (hm.drewN n))
            have HB6 := hd hm.below
            clear hm hl hv hC6 hc6 HO
            go_wp2_with (first | (go_at_call 11; refine (num4_any _ _).mono ?_; rintro e w' ⟨rfl, rfl⟩) | (go_at_call 18; refine HS.out.mono ?_; rintro e w7 ⟨rfl, n7, rfl⟩) | (go_at_call 23; refine (Tryd.ledEpoch lb' b s' L' fp' fp' _ _ (HLD.out n7)).mono ?_; rintro e w' ⟨rfl, rfl⟩) | (go_at_call 22; refine (Tryd.ledRecords lb' b s' L' fp' fp' _ _ (HLD.out n7)).mono ?_; rintro e w' ⟨rfl, rfl⟩) | (go_at_call 9; refine (LV.out _ (HB6.out.trans ((below_drewN0 _ n7).mono HB6.out.size))).mono ?_; rintro e w1 ⟨rfl, hl⟩))
            go_ret
            exact ⟨rfl, hl⟩
      · have LVX : (50 : Int) < l.length ∨ (8000 : Int) < m := by omega
        clear h4
        rcases LVX with h5 | h5
        · go_wp2_with (go_at_call 9; refine (LV.out _ (Below.refl _ _)).mono ?_; rintro e w1 ⟨rfl, hl⟩)
          all_goals
            go_ret
            exact ⟨rfl, hl⟩
        · go_wp2_with (go_at_call 9; refine (LV.out _ (Below.refl _ _)).mono ?_; rintro e w1 ⟨rfl, hl⟩)
          all_goals
            go_ret
            exact ⟨rfl, hl⟩
/-- As the row wants it. -/
theorem all_walk {H : Type} {enc : TypeId × Value → H} (W : World) (hG : Gl W) (v : Value) (ho : ∃ A n c, v = .slice A n c) {d : DataW H} {p : List MemPlace} (h : DataW.Trod enc Tryd.prog W 0 (fun _ => true) true 31 v d p) (hl : Light Tryd.prog 31 d) (a1 : ByteArray) (w1 : a1.size ≤ 140737488351232) :
    Calls Tryd.prog 5 #[v, .string a1] W fun e w' => e = .returned (.bool true) ∧ Below W.heap.size W w' := by
  obtain ⟨A, l, c, rfl, hc, hC, hn, hz⟩ := open_strs ho h hl
  exact all_core W hG A c l hc hC hn hz a1 w1
end Go.Proofs.YtjmejamgbinigaaDoor
namespace Go.Proofs.YtjmejamgbinigaaDoor
set_option linter.unusedVariables false
set_option linter.unusedSimpArgs false
open Go.RowKit Go.Proofs.YtjmejamgbinigaaDoorW.PrintWords Go.Proofs.YtjmejamgbinigaaDoorW.PrintLast
/-- A row of texts that no call of the ledger or its reel writes. -/
def HRow (w : World) (fp : List Nat) (lb : Nat) (v : Value) (xs : List ByteArray) : Prop := ∃ B, Kd.R Kd.string 9 w B (fun j => j ∉ fp ∧ j ≠ lb) v xs
theorem HRow.nil (w : World) (fp : List Nat) (lb : Nat) : HRow w fp lb (.slice none 0 0) [] := ⟨0, Kd.R_nil _ _ _ _ _⟩
theorem HRow.step {w w' : World} {fp fp' : List Nat} {lb lb' : Nat} {v : Value} {xs : List ByteArray} (h : HRow w fp lb v xs) (c : Chg (fun k => k = lb ∨ k ∈ fp) w w') (f : ∀ k ∈ fp', k ∈ fp ∨ w.heap.size ≤ k) (hl : lb' = lb ∨ w.heap.size ≤ lb') : HRow w' fp' lb' v xs := by
  obtain ⟨B, h⟩ := h
  refine ⟨B, Kd.R_mono (Kd.R_step (Kd.R_bound h) (fun k hk hk2 => c.block k hk2 (fun q => q.elim hk.1.2 hk.1.1))) (fun k hk => ⟨fun q => ?_, fun q => ?_⟩)⟩
  · have := hk.2.2.1
    rcases f k q with q | q
    · exact hk.1.1 q
    · omega
  · have := hk.2.2.1
    rcases hl with r | r
    · exact hk.1.2 (q.trans r)
    · omega
theorem HRow.below {w w' : World} {fp : List Nat} {lb : Nat} {v : Value} {xs : List ByteArray} (h : HRow w fp lb v xs) (hb : Below w.heap.size w w') : HRow w' fp lb v xs := by
  obtain ⟨B, h⟩ := h
  exact ⟨B, Kd.R_below h hb⟩
theorem HRow.reads {w : World} {fp : List Nat} {lb : Nat} {v : Value} {xs : List ByteArray} (h : HRow w fp lb v xs) : ∃ A c, v = .slice A xs.length c ∧ xs.length ≤ c ∧ Kd.C Kd.string w A xs.length xs := by
  obtain ⟨B, h⟩ := h
  exact Kd.R_reads h
structure LastAt (w0 w : World) (b lb : Nat) (s : RS) (L : LS) (fp : List Nat) (B N : ByteArray) (all more : List ByteArray) (va vm : Value) (k u : Nat) : Prop where
  mine : MineL w0 w b s fp
  led : Lg w0 w b fp lb L
  lok : L.Ok
  room : s.room = 4194304
  used : s.used ≤ u
  ep : L.broken = false → L.epoch ≤ k + 1
  len : all.length ≤ k
  mlen : more.length ≤ k + 1
  st : (L.broken = false ∧ Clean s L (bsL B) (all.map bsL)) ∨ (L.broken = true ∧ Torn s (k + 1) (bsL B) (all.map bsL) (bsL N) (more.map bsL))
  ra : HRow w fp lb va all
  rm : HRow w fp lb vm more
theorem LastAt.below {w0 w w' : World} {b lb : Nat} {s : RS} {L : LS} {fp : List Nat} {B N : ByteArray} {all more : List ByteArray} {va vm : Value} {k u : Nat} (h : LastAt w0 w b lb s L fp B N all more va vm k u) (hb : Below w.heap.size w w') : LastAt w0 w' b lb s L fp B N all more va vm k u :=
  ⟨h.mine.below_ hb, h.led.below_ hb, h.lok, h.room, h.used, h.ep, h.len, h.mlen, h.st, h.ra.below hb, h.rm.below hb⟩
theorem LastAt.more {w0 w : World} {b lb : Nat} {s : RS} {L : LS} {fp : List Nat} {B N : ByteArray} {all more : List ByteArray} {va vm : Value} {k u u' : Nat} (h : LastAt w0 w b lb s L fp B N all more va vm k u) (hu : u ≤ u') : LastAt w0 w b lb s L fp B N all more va vm k u' :=
  ⟨h.mine, h.led, h.lok, h.room, Nat.le_trans h.used hu, h.ep, h.len, h.mlen, h.st, h.ra, h.rm⟩
theorem LastAt.later {w0 w : World} {b lb : Nat} {s : RS} {L : LS} {fp : List Nat} {B N : ByteArray} {all more : List ByteArray} {va vm : Value} {k u : Nat} (h : LastAt w0 w b lb s L fp B N all more va vm k u) : LastAt w0 w b lb s L fp B N all more va vm (k + 1) u := by
  have hlen := h.len
  have hml := h.mlen
  refine ⟨h.mine, h.led, h.lok, h.room, h.used, fun q => by have := h.ep q; omega, by omega, by omega, ?_, h.ra, h.rm⟩
  rcases h.st with q | ⟨q0, q⟩
  · exact .inl q
  · refine .inr ⟨q0, q.ok, q.dead, fun k0 k1 => ?_⟩
    obtain ⟨t, e, he, r⟩ := q.told k0 k1
    exact ⟨t, e, by omega, r⟩
theorem addM_ok {s s' : RS} {L L' : LS} {q : Txt} {er : Int} (h : L.Ok) (hr : L.recs < 8000000000000000000) (hm : addM s L q = (s', L', er)) : L'.Ok := by
  have hk := wr_keeps s L L.tape (laidL kRec (L.recs + 1) q)
  obtain ⟨h1, h2, h3, h4, h5⟩ := h
  unfold addM at hm
  split at hm
  · cases hm; exact ⟨h1, h2, h3, h4, h5⟩
  · split at hm
    · cases hm
      exact ⟨by show (wr s L L.tape _).2.1.tape = 0 ∨ (wr s L L.tape _).2.1.tape = 1; rw [hk.1]; exact h1, by show 0 ≤ (wr s L L.tape _).2.1.epoch; rw [hk.2.1]; exact h2, by show (wr s L L.tape _).2.1.epoch < _; rw [hk.2.1]; exact h3, by show 0 ≤ (wr s L L.tape _).2.1.recs + 1; rw [hk.2.2]; omega, by show (wr s L L.tape _).2.1.recs + 1 < _; rw [hk.2.2]; omega⟩
    · have e : L' = (wr s L L.tape (laidL kRec (L.recs + 1) q)).2.1 := by rw [hm]
      rw [e]
      exact ⟨by rw [hk.1]; exact h1, by rw [hk.2.1]; exact h2, by rw [hk.2.1]; exact h3, by rw [hk.2.2]; exact h4, by rw [hk.2.2]; exact h5⟩
theorem baseM_ok {s s' : RS} {L L' : LS} {q : Txt} {er : Int} (h : L.Ok) (hr : L.epoch < 8000000000000000000) (hm : baseM s L q = (s', L', er)) : L'.Ok := by
  have hk := wr_keeps s L (1 - L.tape) (laidL kBase (L.epoch + 1) q)
  obtain ⟨h1, h2, h3, h4, h5⟩ := h
  unfold baseM at hm
  split at hm
  · cases hm; exact ⟨h1, h2, h3, h4, h5⟩
  · split at hm
    · have e : L' = (wr s L (1 - L.tape) (laidL kBase (L.epoch + 1) q)).2.1 := by rw [hm]
      rw [e]
      exact ⟨by rw [hk.1]; exact h1, by rw [hk.2.1]; exact h2, by rw [hk.2.1]; exact h3, by rw [hk.2.2]; exact h4, by rw [hk.2.2]; exact h5⟩
    · split at hm
      · cases hm
        exact ⟨by show (wr s L (1 - L.tape) _).2.1.tape = 0 ∨ (wr s L (1 - L.tape) _).2.1.tape = 1; rw [hk.1]; exact h1, by show 0 ≤ (wr s L (1 - L.tape) _).2.1.epoch; rw [hk.2.1]; exact h2, by show (wr s L (1 - L.tape) _).2.1.epoch < _; rw [hk.2.1]; exact h3, by show 0 ≤ (wr s L (1 - L.tape) _).2.1.recs; rw [hk.2.2]; exact h4, by show (wr s L (1 - L.tape) _).2.1.recs < _; rw [hk.2.2]; exact h5⟩
      · cases hm
        exact ⟨by show 1 - L.tape = 0 ∨ 1 - L.tape = 1; omega, by show 0 ≤ L.epoch + 1; omega, by show L.epoch + 1 < _; omega, by show (0 : Int) ≤ 0; omega, by show (0 : Int) < _; omega⟩
section
variable {w0 w : World} {b lb : Nat} {s : RS} {L : LS} {fp : List Nat} {B N : ByteArray} {all more : List ByteArray} {va vm : Value} {k u : Nat}
theorem last_add (hG : Gl w0) (x : ByteArray) (h : LastAt w0 w b lb s L fp B B all (all ++ [x]) va vm k u) (hbr : L.broken = false) (hx : x.size ≤ 8000) (hu : u ≤ 1000000) (hk : k ≤ 50) :
    (Calls Tryd.prog 14 #[.pointer (some ⟨lb, 0, none⟩), .string x] w fun r w' => r = .returned (.int .i64 0) ∧ ∃ s' L' fp', LastAt w0 w' b lb s' L' fp' B B (all ++ [x]) (all ++ [x]) vm vm (k + 1) (u + x.size + 140)) ∨
    (Calls Tryd.prog 14 #[.pointer (some ⟨lb, 0, none⟩), .string x] w fun r w' => r = .returned (.int .i64 30) ∧ ∃ s' L' fp', LastAt w0 w' b lb s' L' fp' B B all (all ++ [x]) va vm (k + 1) (u + x.size + 140)) := by
  have hcl : Clean s L (bsL B) (all.map bsL) := by
    rcases h.st with ⟨_, q⟩ | ⟨q, _⟩
    · exact q
    · rw [hbr] at q; cases q
  have zx := bs_size x
  have zx' : (bsL x).length = x.size := zx.symm
  have hus := h.used
  have hlen := h.len
  have hep := h.ep hbr
  have hn := hcl.n
  rw [List.length_map] at hn
  have hmap : (all ++ [x]).map bsL = all.map bsL ++ [bsL x] := by simp
  rcases hcl.add (bsL x) (by omega) (by rw [free_eq, h.room]; omega) (by simp; omega) with ⟨s', L', ha, hc, t1, t2, t3, t4, t5, t6⟩ | ⟨_, s', L', ha, hb', ht, t4, t5⟩
  · left
    refine (own_add hG h.mine h.led h.lok x (by omega) s' L' 0 ha).mono ?_
    rintro r w' ⟨rfl, fp', hm, hl, hch, hf⟩
    refine ⟨rfl, s', L', fp', hm, hl, hc.lok, t4.trans h.room, by omega, fun _ => by rw [t2]; omega, by simp; omega, by simp; omega, .inl ⟨hc.broken, by rw [hmap]; exact hc⟩, h.rm.step hch hf (.inl rfl), h.rm.step hch hf (.inl rfl)⟩
  · right
    refine (own_add hG h.mine h.led h.lok x (by omega) s' L' 30 ha).mono ?_
    rintro r w' ⟨rfl, fp', hm, hl, hch, hf⟩
    refine ⟨rfl, s', L', fp', hm, hl, addM_ok h.lok (by omega) ha, t4.trans h.room, by omega, fun q => (by rw [hb'] at q; cases q), by omega, by simp; omega, .inr ⟨hb', ht.ok, ht.dead, fun k0 k1 => ?_⟩, h.ra.step hch hf (.inl rfl), h.rm.step hch hf (.inl rfl)⟩
    obtain ⟨t, e, he, q⟩ := ht.told k0 k1
    rw [hmap]
    exact ⟨t, e, by omega, q⟩
theorem last_base (hG : Gl w0) (x : ByteArray) (h : LastAt w0 w b lb s L fp B x all [] va (.slice none 0 0) k u) (hbr : L.broken = false) (hx : x.size ≤ 8000) (hu : u ≤ 1000000) (hk : k ≤ 50) :
    (Calls Tryd.prog 15 #[.pointer (some ⟨lb, 0, none⟩), .string x] w fun r w' => r = .returned (.int .i64 0) ∧ ∃ s' L' fp', LastAt w0 w' b lb s' L' fp' x x [] [] (.slice none 0 0) (.slice none 0 0) (k + 1) (u + x.size + 140)) ∨
    (Calls Tryd.prog 15 #[.pointer (some ⟨lb, 0, none⟩), .string x] w fun r w' => r = .returned (.int .i64 30) ∧ ∃ s' L' fp', LastAt w0 w' b lb s' L' fp' B x all [] va (.slice none 0 0) (k + 1) (u + x.size + 140)) := by
  have hcl : Clean s L (bsL B) (all.map bsL) := by
    rcases h.st with ⟨_, q⟩ | ⟨q, _⟩
    · exact q
    · rw [hbr] at q; cases q
  have zx := bs_size x
  have zx' : (bsL x).length = x.size := zx.symm
  have hus := h.used
  have hlen := h.len
  have hep := h.ep hbr
  rcases hcl.base (bsL x) (by omega) (by rw [free_eq, h.room]; omega) (by omega) with ⟨s', L', ha, hc, t1, t2, t3, t4, t5, t6⟩ | ⟨_, s', L', ha, hb', ht, t4, t5⟩
  · left
    refine (own_base hG h.mine h.led h.lok x (by omega) s' L' 0 ha).mono ?_
    rintro r w' ⟨rfl, fp', hm, hl, hch, hf⟩
    exact ⟨rfl, s', L', fp', hm, hl, hc.lok, t4.trans h.room, by omega, fun _ => by rw [t2]; omega, by simp, by simp, .inl ⟨hc.broken, hc⟩, h.rm.step hch hf (.inl rfl), h.rm.step hch hf (.inl rfl)⟩
  · right
    refine (own_base hG h.mine h.led h.lok x (by omega) s' L' 30 ha).mono ?_
    rintro r w' ⟨rfl, fp', hm, hl, hch, hf⟩
    refine ⟨rfl, s', L', fp', hm, hl, baseM_ok h.lok (by omega) ha, t4.trans h.room, by omega, fun q => (by rw [hb'] at q; cases q), by omega, by simp, .inr ⟨hb', ht.ok, ht.dead, fun k0 k1 => ?_⟩, h.ra.step hch hf (.inl rfl), h.rm.step hch hf (.inl rfl)⟩
    obtain ⟨t, e, he, q⟩ := ht.told k0 k1
    exact ⟨t, e, by omega, q⟩
theorem last_broken (hG : Gl w0) (x : ByteArray) (h : LastAt w0 w b lb s L fp B N all more va vm k u) (hbr : L.broken = true) (hx : x.size ≤ 8000) :
    Calls Tryd.prog 14 #[.pointer (some ⟨lb, 0, none⟩), .string x] w fun r w' => r = .returned (.int .i64 40) ∧ ∃ fp', LastAt w0 w' b lb s L fp' B N all more va vm (k + 1) u := by
  have ha : addM s L (bsL x) = (s, L, 40) := by
    unfold addM
    have : L.start (bsL x).length = 40 := by unfold LS.start; rw [if_pos hbr]
    rw [this, if_pos (by decide)]
  refine (own_add hG h.mine h.led h.lok x (by omega) s L 40 ha).mono ?_
  rintro r w' ⟨rfl, fp', hm, hl, hch, hf⟩
  have hlen := h.len
  have hml := h.mlen
  refine ⟨rfl, fp', hm, hl, h.lok, h.room, h.used, fun q => (by rw [hbr] at q; cases q), by omega, by omega, ?_, h.ra.step hch hf (.inl rfl), h.rm.step hch hf (.inl rfl)⟩
  rcases h.st with ⟨q, _⟩ | ⟨_, q⟩
  · rw [hbr] at q; cases q
  · refine .inr ⟨hbr, q.ok, q.dead, fun k0 k1 => ?_⟩
    obtain ⟨t, e, he, r⟩ := q.told k0 k1
    exact ⟨t, e, by omega, r⟩
theorem last_arm (n : Int) (h : LastAt w0 w b lb s L fp B N all more va vm k u) (h0 : -9223372036854775808 ≤ n) (h1 : n ≤ 9223372036854775807) :
    Calls Tryd.prog 16 #[.pointer (some ⟨b, 0, none⟩), .int .i64 n] w fun r w' => r = .returned (.tuple #[]) ∧ ∃ fp', LastAt w0 w' b lb (s.arm n) L fp' B N all more va vm (k + 1) u := by
  refine (arm_any b n s fp w h.mine.at_ h0 h1).mono ?_
  rintro r w' ⟨rfl, hp⟩
  obtain ⟨fp', hm, hk, hch, hf⟩ := h.mine.next hp
  have hch' : Chg (fun k => k = lb ∨ k ∈ fp) w w' := hch.mono (fun _ _ q => .inr q)
  have hlen := h.len
  have hml := h.mlen
  refine ⟨rfl, fp', hm, hk _ _ h.led, h.lok, h.room, h.used, fun q => by have := h.ep q; omega, by omega, by omega, ?_, h.ra.step hch' hf (.inl rfl), h.rm.step hch' hf (.inl rfl)⟩
  rcases h.st with ⟨q0, q⟩ | ⟨q0, q⟩
  · exact .inl ⟨q0, q.ok.arm h0 h1, q.dead, q.broken, q.tape, q.full, q.rest, q.safe', q.rest', q.n, q.fits⟩
  · refine .inr ⟨q0, q.ok.arm h0 h1, q.dead, fun k0 k1 => ?_⟩
    obtain ⟨t, e, he, r⟩ := q.told k0 k1
    exact ⟨t, e, by omega, r⟩
/-- Behind a crash: opened anew. -/
theorem last_crash (hG : Gl w0) (k0 k1 : Int) (h : LastAt w0 w b lb s L fp B N all more va vm k u) :
    Calls Tryd.prog 17 #[.pointer (some ⟨b, 0, none⟩), .agg #[.int .i64 k0, .int .i64 k1, .int .u8 0]] w fun r w1 => r = .returned (.tuple #[]) ∧
      Calls Tryd.prog 12 #[.pointer (some ⟨b, 0, none⟩)] w1 fun r w' => ∃ lb' F out v s' L' fp', r = .returned (.tuple #[.pointer (some ⟨lb', 0, none⟩), .string F, v, .int .i64 0]) ∧
        LastAt w0 w' b lb' s' L' fp' F F out out v v (k + 1) u ∧ ((F = B ∧ out = all) ∨ (F = N ∧ out = more)) ∧ HRow w' fp' lb' va all ∧ HRow w' fp' lb' vm more := by
  have hA : ∃ t e F out, e ≤ (k : Int) + 1 ∧ After (s.crash k0 k1 0) t e (bsL F) (out.map bsL) ∧ ((F = B ∧ out = all) ∨ (F = N ∧ out = more)) := by
    rcases h.st with ⟨q0, q⟩ | ⟨q0, q⟩
    · exact ⟨L.tape, L.epoch, B, all, h.ep q0, q.after k0 k1 0, .inl ⟨rfl, rfl⟩⟩
    · obtain ⟨t, e, he, r⟩ := q.told k0 k1
      rcases r with r | r
      · exact ⟨t, e, B, all, he, r, .inl ⟨rfl, rfl⟩⟩
      · exact ⟨t, e, N, more, he, r, .inr ⟨rfl, rfl⟩⟩
  obtain ⟨t, e, F, out, he, hAf, hor⟩ := hA
  obtain ⟨s3, L3, o3, c3, f3, p3, e3, t3, l3, m3, u3⟩ := hAf.open_
  have hcu := crash_used s k0 k1 0
  have hus := h.used
  have hlen := h.len
  have hml := h.mlen
  refine (own_crash h.mine k0 k1 0).mono ?_
  rintro r w1 ⟨rfl, fp1, hm, hk1, hch1, hf1⟩
  refine ⟨rfl, ?_⟩
  have hch1' : Chg (fun k => k = lb ∨ k ∈ fp) w w1 := hch1.mono (fun _ _ q => .inr q)
  have ra1 := h.ra.step hch1' hf1 (.inl rfl)
  have rm1 := h.rm.step hch1' hf1 (.inl rfl)
  refine (own_open hG hm s3 L3 _ _ _ _ o3 f3 p3).mono ?_
  rintro r w2 ⟨fp', lb', v, B', rfl, hm2, hl2, _, _, hv, hch2, hf2, hlb⟩
  have hch2' : Chg (fun k => k = lb ∨ k ∈ fp1) w1 w2 := hch2.mono (fun _ _ q => .inr q)
  rw [map_back] at hv
  rw [of_bs]
  have hvr : HRow w2 fp' lb' v out := ⟨B', Kd.R_mono hv (fun j hj => ⟨hj.2.1, hj.2.2⟩)⟩
  have hol : out.length ≤ k + 1 := by
    rcases hor with ⟨_, rfl⟩ | ⟨_, rfl⟩
    · omega
    · exact hml
  exact ⟨lb', F, out, v, s3, L3, fp', rfl, ⟨hm2, hl2, c3.lok, m3.trans h.room, by omega, fun _ => by rw [e3]; omega, by omega, by omega, .inl ⟨c3.broken, c3⟩, hvr, hvr⟩, hor, ra1.step hch2' hf2 (.inr hlb), rm1.step hch2' hf2 (.inr hlb)⟩
end
/-! ### A new row of texts -/
structure AppSt (W1 : World) (v : Value) (xs : List Value) (cur : World) : Prop where
  row : Row cur 9 v xs
  own : ∀ k, v.ownBlock = some k → W1.heap.size ≤ k
  below : Below W1.heap.size W1 cur
theorem row_empty {w : World} {g : Nat} (h : w.heap[g]? = some (.cells #[] 9 (0, 0))) : Row w 9 (.slice (some ⟨g, 0, none⟩) 0 0) [] :=
  ⟨rfl, .inr ⟨g, 0, #[], rfl, Nat.zero_le _, h, by simp, by simp [maxLen], by simp, by simp⟩⟩
theorem app_i (W1 : World) : AppSt W1 (.slice (some ⟨W1.heap.size, 0, none⟩) 0 0) [] (W1.alloc (.cells #[] 9)).drew :=
  ⟨row_empty (heap_alloc_new W1 _), fun k hk => by simp [Value.ownBlock] at hk; omega, below_drew ((Below.refl _ _).alloc (Nat.le_refl _) _)⟩
theorem app_ii (W1 : World) (o : Obj) : AppSt W1 (.slice (some ⟨W1.heap.size, 0, none⟩) 0 0) [] ((W1.alloc (.cells #[] 9)).alloc o).drew :=
  ⟨row_empty ((Below.heap_alloc _ _ _ (by simp)).trans (heap_alloc_new W1 _)), fun k hk => by simp [Value.ownBlock] at hk; omega, below_drew (((Below.refl _ _).alloc (Nat.le_refl _) _).alloc (by simp) _)⟩
theorem app_iii (W1 : World) (o : Obj) : AppSt W1 (.slice (some ⟨W1.heap.size + 1, 0, none⟩) 0 0) [] ((W1.alloc o).alloc (.cells #[] 9)).drew := by
  have h := heap_alloc_new (W1.alloc o) (.cells #[] 9)
  rw [show (W1.alloc o).heap.size = W1.heap.size + 1 by simp] at h
  exact ⟨row_empty h, fun k hk => by simp [Value.ownBlock] at hk; omega, below_drew (((Below.refl _ _).alloc (Nat.le_refl _) _).alloc (by simp) _)⟩
theorem AppSt.step {W1 cur w' : World} {v v' : Value} {xs ys : List Value} (h : AppSt W1 v xs cur) (hr : Row w' 9 v' (xs ++ ys)) (hg : cur.grownBy w' v.ownBlock) (hb : v'.ownBlock = v.ownBlock ∨ v'.ownBlock = some cur.heap.size) : AppSt W1 v' (xs ++ ys) w' := by
  have hs := h.below.size
  refine ⟨hr, fun k hk => ?_, h.below.trans ⟨hg.os, hg.tape, hg.output, hg.size, fun k hk => hg.block k (by omega) (fun q => by have := h.own k q.symm; omega)⟩⟩
  rcases hb with q | q
  · rw [q] at hk; exact h.own k hk
  · rw [q] at hk; cases hk; exact hs
theorem AppSt.alloc {W1 cur : World} {v : Value} {xs : List Value} (h : AppSt W1 v xs cur) (o : Obj) : AppSt W1 v xs (cur.alloc o) := ⟨h.row.alloc o, h.own, h.below.alloc h.below.size o⟩
theorem AppSt.hrow {W1 cur : World} {v : Value} {l : List ByteArray} {fp : List Nat} {lb : Nat} (h : AppSt W1 v (l.map Value.string) cur) (hf : ∀ k ∈ fp, k < W1.heap.size) (hl : lb < W1.heap.size) : HRow cur fp lb v l := by
  refine ⟨0, Kd.R_of_own ?_ (fun k hk => ?_)⟩
  · have := h.row
    unfold Row at this
    rw [List.length_map] at this
    exact this
  · have := h.own k hk
    exact ⟨fun q => by have := hf k q; omega, by omega⟩
theorem HRow.row {w : World} {fp : List Nat} {lb : Nat} {v : Value} {xs : List ByteArray} (h : HRow w fp lb v xs) : Row w 9 v (xs.map Value.string) := by
  obtain ⟨B, h⟩ := h
  have := own_less (Kd.own_of_R h) (Nat.zero_le B)
  unfold Row
  rw [List.length_map]
  exact this
theorem lit_row (w : World) (x : ByteArray) : Row (w.alloc (.cells #[.string x] 9)) 9 (.slice (some ⟨w.heap.size, 0, none⟩) 1 1) [.string x] :=
  ⟨rfl, .inr ⟨w.heap.size, 1, #[.string x], rfl, Nat.zero_le _, heap_alloc_new w _, by simp, by simp [maxLen], by simp, by simp⟩⟩
theorem lit_ii (W1 : World) (x : ByteArray) : Row ((W1.alloc (.cells #[] 9)).alloc (.cells #[.string x] 9)).drew 9 (.slice (some ⟨W1.heap.size + 1, 0, none⟩) 1 1) [.string x] := by
  have h := (lit_row (W1.alloc (.cells #[] 9)) x).drew
  rwa [show (W1.alloc (.cells #[] 9)).heap.size = W1.heap.size + 1 by simp] at h
theorem lit_iii (W1 : World) (x : ByteArray) : Row ((W1.alloc (.cells #[.string x] 9)).alloc (.cells #[] 9)).drew 9 (.slice (some ⟨W1.heap.size, 0, none⟩) 1 1) [.string x] := ((lit_row W1 x).alloc _).drew
theorem lit_grown {w w' : World} {s g n c : Nat} {ys : List Value} (h : Row w 9 (.slice (some ⟨s, 0, none⟩) 1 1) ys) (hg : w.grownBy w' (Value.ownBlock (.slice (some ⟨g, 0, none⟩) n c))) (hne : s ≠ g) : Row w' 9 (.slice (some ⟨s, 0, none⟩) 1 1) ys :=
  h.grown hg (fun k hk q => by simp [Value.ownBlock] at hk q; omega)
theorem grown_cell {w w' : World} {row : Option Nat} {p : Addr} {v : Value} (hg : w.grownBy w' row) (hc : w.cell? p = some v) (hn : row ≠ some p.block) : w'.cell? p = some v := by
  have hl := World.block_lt_of_cell? w _ hc
  rw [← hc]
  unfold World.cell?
  rw [hg.block _ hl (fun q => hn q.symm)]
theorem str_info : (Tryd.prog.info? 9).map (fun i => (i.zero, i.size, i.bytes)) = some (some (.string ⟨#[]⟩), 1, 16) := by kernel_rfl
theorem strs_one (l : List ByteArray) : ∀ y ∈ l.map Value.string, y.oneCell' = true := by
  intro y hy
  obtain ⟨x, _, rfl⟩ := List.mem_map.1 hy
  rfl
/-- What comes next is told anew, ahead of a call. -/
theorem LastAt.next {w0 w : World} {b lb : Nat} {s : RS} {L : LS} {fp : List Nat} {B N : ByteArray} {all more : List ByteArray} {va vm : Value} {k u : Nat} (h : LastAt w0 w b lb s L fp B N all more va vm k u) (hbr : L.broken = false) (N' : ByteArray) (more' : List ByteArray) (vm' : Value) (hr : HRow w fp lb vm' more') (hm : more'.length ≤ k + 1) :
    LastAt w0 w b lb s L fp B N' all more' va vm' k u := by
  refine ⟨h.mine, h.led, h.lok, h.room, h.used, h.ep, h.len, hm, ?_, h.ra, hr⟩
  rcases h.st with q | ⟨q, _⟩
  · exact .inl q
  · rw [hbr] at q; cases q
theorem LastAt.appended {w0 W1 w : World} {b lb : Nat} {s : RS} {L : LS} {fp : List Nat} {B N : ByteArray} {all more : List ByteArray} {va vm v2 : Value} {k u : Nat} {x : ByteArray} (h : LastAt w0 W1 b lb s L fp B N all more va vm k u) (hbr : L.broken = false) (S2 : AppSt W1 v2 ((all ++ [x]).map Value.string) w) :
    LastAt w0 w b lb s L fp B B all (all ++ [x]) va v2 k u := by
  have hlen := h.len
  exact (h.below S2.below).next hbr B (all ++ [x]) v2 (S2.hrow h.mine.lt h.led.blk.lt) (by simp; omega)
end Go.Proofs.YtjmejamgbinigaaDoor
namespace Go.Proofs.YtjmejamgbinigaaDoor
set_option linter.unusedVariables false
set_option linter.unusedSimpArgs false
open Go.RowKit Go.Lib
/-! ### The sum tells one byte -/
def sumA (l : Txt) : Nat := (l.map (·.toNat)).sum
theorem sum_fst : ∀ (l : Txt) (a b : Nat), a < 65521 → (sumGo l (a, b)).1 = (a + sumA l) % 65521
  | [], a, b, h => by simp [sumGo, sumA, Nat.mod_eq_of_lt h]
  | c :: l, a, b, h => by
    rw [sumGo, sum_fst l _ _ (Nat.mod_lt _ (by decide))]
    simp only [sumA, List.map_cons, List.sum_cons]
    omega
theorem sumA_set : ∀ (l : Txt) (c : Nat) (x y : UInt8), l[c]? = some x → sumA (l.set c y) + x.toNat = sumA l + y.toNat
  | [], c, x, y, h => by simp at h
  | d :: l, 0, x, y, h => by
    simp at h
    subst h
    simp only [List.set_cons_zero, sumA, List.map_cons, List.sum_cons]
    omega
  | d :: l, c + 1, x, y, h => by
    have := sumA_set l c x y (by simpa using h)
    simp only [List.set_cons_succ, sumA, List.map_cons, List.sum_cons] at *
    omega
theorem sum_low (l : Txt) : sumL l % 65536 = (1 + sumA l) % 65521 := by
  unfold sumL
  have h := sum_fst l 1 0 (by decide)
  rw [h]
  have := Nat.mod_lt (1 + sumA l) (show 0 < 65521 by decide)
  omega
theorem sum_snd : ∀ (l : Txt) (a b : Nat), b < 65521 → (sumGo l (a, b)).2 < 65521
  | [], a, b, h => by simpa [sumGo] using h
  | c :: l, a, b, h => by
    rw [sumGo]
    exact sum_snd l _ _ (Nat.mod_lt _ (by decide))
theorem sum_lt (l : Txt) : sumL l < 4294967296 := by
  have h1 := sum_fst l 1 0 (by decide)
  have h2 := sum_snd l 1 0 (by decide)
  have h3 := Nat.mod_lt (1 + sumA l) (show 0 < 65521 by decide)
  unfold sumL
  omega
theorem sum_set (l : Txt) (c : Nat) (x y : UInt8) (h : l[c]? = some x) (hne : y ≠ x) : sumL (l.set c y) ≠ sumL l := by
  intro q
  have h1 := sum_low (l.set c y)
  have h2 := sum_low l
  have h3 := sumA_set l c x y h
  rw [q, h2] at h1
  have hx := x.toNat_lt
  have hy := y.toNat_lt
  have hxy : y.toNat ≠ x.toNat := fun e => hne (UInt8.toNat_inj.1 e)
  omega
theorem hexD_inj {a b : Nat} (ha : a < 16) (hb : b < 16) (h : hexD a = hexD b) : a = b := by
  have : ∀ a < 16, ∀ b < 16, hexD a = hexD b → a = b := by decide
  exact this a ha b hb h
theorem hex8_inj {a b : Nat} (ha : a < 4294967296) (hb : b < 4294967296) (h : hex8 a = hex8 b) : a = b := by
  unfold hex8 at h
  simp only [List.cons.injEq, and_true] at h
  obtain ⟨h1, h2, h3, h4, h5, h6, h7, h8⟩ := h
  have m : ∀ n : Nat, n % 16 < 16 := fun n => Nat.mod_lt _ (by decide)
  have e1 := hexD_inj (m _) (m _) h1
  have e2 := hexD_inj (m _) (m _) h2
  have e3 := hexD_inj (m _) (m _) h3
  have e4 := hexD_inj (m _) (m _) h4
  have e5 := hexD_inj (m _) (m _) h5
  have e6 := hexD_inj (m _) (m _) h6
  have e7 := hexD_inj (m _) (m _) h7
  have e8 := hexD_inj (m _) (m _) h8
  omega
theorem hex8_length (n : Nat) : (hex8 n).length = 8 := rfl
/-- A sealed text with one other byte is no sealed text of the same length. -/
theorem seal_set (Y Y' : Txt) (c : Nat) (x y : UInt8) (hl : Y'.length = Y.length) (hx : (sealL Y)[c]? = some x) (hne : y ≠ x) (h : (sealL Y).set c y = sealL Y') : False := by
  unfold sealL at h hx
  by_cases hc : c < Y.length
  · rw [List.set_append_left _ _ hc] at h
    obtain ⟨h1, h2⟩ := List.append_inj h (by rw [List.length_set, hl])
    rw [List.getElem?_append_left hc] at hx
    have := hex8_inj (sum_lt _) (sum_lt _) h2
    rw [← h1] at this
    exact sum_set Y c x y hx hne this.symm
  · rw [List.set_append_right _ _ (by omega)] at h
    obtain ⟨h1, h2⟩ := List.append_inj h hl.symm
    rw [List.getElem?_append_right (by omega)] at hx
    rw [← h1] at h2
    have h3 := congrArg (fun l : Txt => l[c - Y.length]?) h2
    have hlt := (List.getElem?_eq_some_iff.1 hx).1
    simp only [List.getElem?_set_self hlt, hx] at h3
    exact hne (Option.some.inj h3)
/-! ### The front of a record's page -/
structure Front (X : Txt) (d : Nat) : Prop where
  dig : ∀ i, i < d → ∃ b, X[i]? = some b ∧ b ≠ 58
  a0 : X[d]? = some 58
  a1 : X[d + 1]? = some 51
  a2 : X[d + 2]? = some 58
  a3 : X[d + 3]? = some 114
theorem front_clash {X X' : Txt} {d d' c : Nat} (h : Front X d) (h' : Front X' d') (hd : d < d') (hs : ∀ i, i ≠ c → X[i]? = X'[i]?) : False := by
  have hc : c = d := by
    by_cases q : d = c
    · exact q.symm
    · have e := hs d q
      obtain ⟨b, hb, hn⟩ := h'.dig d hd
      rw [h.a0, hb] at e
      exact absurd (Option.some.inj e).symm hn
  subst hc
  have e1 := hs (c + 1) (by omega)
  have e2 := hs (c + 2) (by omega)
  have e3 := hs (c + 3) (by omega)
  rw [h.a1] at e1
  rw [h.a2] at e2
  rw [h.a3] at e3
  rcases Nat.lt_or_ge (c + 1) d' with q | q
  · rcases Nat.lt_or_ge (c + 2) d' with r | r
    · obtain ⟨b, hb, hn⟩ := h'.dig (c + 2) r
      rw [hb] at e2
      exact absurd (Option.some.inj e2).symm hn
    · have hd' : d' = c + 2 := by omega
      subst hd'
      have := h'.a1
      rw [show c + 2 + 1 = c + 3 by omega] at this
      rw [this] at e3
      exact absurd (Option.some.inj e3) (by decide)
  · have hd' : d' = c + 1 := by omega
    subst hd'
    rw [h'.a0] at e1
    exact absurd (Option.some.inj e1) (by decide)
def recTie (n : Int) (q : Txt) : Txt := tieL [kRec, itoa n, q]
theorem rec_tie (n : Int) (q : Txt) : recTie n q = [51, 58, 114, 101, 99, 44] ++ (strandL (itoa n) ++ strandL q) := by
  have : strandL kRec = [51, 58, 114, 101, 99, 44] := by
    unfold strandL
    rw [show ((kRec.length : Nat) : Int) = ((3 : Nat) : Int) from rfl, itoa_nat, dec_small (by decide)]
    rfl
  unfold recTie
  simp only [tieL, this, List.append_nil]
theorem rec_page (n : Int) (q : Txt) : laidL kRec n q = itoa ((sealL (recTie n q)).length : Int) ++ 58 :: (sealL (recTie n q) ++ [44]) := rfl
theorem rec_front (n : Int) (q tail : Txt) : Front (laidL kRec n q ++ tail) (itoa ((sealL (recTie n q)).length : Int)).length := by
  have hS : sealL (recTie n q) = [51, 58, 114] ++ ([101, 99, 44] ++ (strandL (itoa n) ++ strandL q) ++ hex8 (sumL (recTie n q))) := by
    unfold sealL
    rw [rec_tie]
    simp
  obtain ⟨D, hD⟩ : ∃ D, itoa ((sealL (recTie n q)).length : Int) = D := ⟨_, rfl⟩
  have hX : laidL kRec n q ++ tail = D ++ ([58, 51, 58, 114] ++ (([101, 99, 44] ++ (strandL (itoa n) ++ strandL q) ++ hex8 (sumL (recTie n q))) ++ [44] ++ tail)) := by
    rw [rec_page, hD, hS]
    simp
  rw [hX, hD]
  refine ⟨fun i hi => ?_, ?_, ?_, ?_, ?_⟩
  · refine ⟨D[i], by rw [List.getElem?_append_left hi, List.getElem?_eq_getElem hi], ?_⟩
    have := itoa_colon (sealL (recTie n q)).length
    rw [hD] at this
    exact fun q => this (q ▸ List.getElem_mem hi)
  all_goals
    rw [List.getElem?_append_right (by omega)]
    simp
theorem strand_mono {q t : Txt} (h : q.length < t.length) (ht : t.length ≤ 1000000) : (strandL q).length ≠ (strandL t).length := by
  intro e
  rw [strand_length, strand_length, itoa_nat, itoa_nat] at e
  have hm : ∀ u v : Nat, u ≤ v → (decDigits u).length ≤ (decDigits v).length := by
    intro u
    induction u using Nat.strongRecOn with
    | _ u ih =>
      intro v huv
      by_cases hu : u < 10
      · rw [dec_small hu]
        have := dec_ne v
        cases hd : decDigits v with
        | nil => exact absurd hd this
        | cons c r => simp
      · rw [dec_big hu, dec_big (show ¬ v < 10 by omega)]
        have := ih (u / 10) (by omega) (v / 10) (by omega)
        simp
        omega
  have := hm q.length t.length (by omega)
  omega
/-- A record's page with one other byte is not read as the same record. -/
theorem spoilt (n : Int) (q tail : Txt) (hn : inI64 n) (hq : q.length ≤ 524288) (c : Nat) (x y : UInt8) (hx : (laidL kRec n q)[c]? = some x) (hne : y ≠ x) (t r : Txt) (h : readL ((laidL kRec n q).set c y ++ tail) = some ((kRec, n, t), r)) : False := by
  obtain ⟨h1, h2, _⟩ := read_some h
  unfold maxLoad at h2
  have hc := (List.getElem?_eq_some_iff.1 hx).1
  have hset : (laidL kRec n q).set c y ++ tail = (laidL kRec n q ++ tail).set c y := by rw [List.set_append_left _ _ hc]
  rw [hset] at h1
  have hs : ∀ i, i ≠ c → (laidL kRec n q ++ tail)[i]? = (laidL kRec n t ++ r)[i]? := by
    intro i hi
    rw [← h1, List.getElem?_set_ne (by omega)]
  have F := rec_front n q tail
  have F' := rec_front n t r
  have l1 := laid_len kRec n q (by decide) hn hq
  have l2 := laid_len kRec n t (by decide) hn h2
  rcases Nat.lt_trichotomy (itoa ((sealL (recTie n q)).length : Int)).length (itoa ((sealL (recTie n t)).length : Int)).length with hd | hd | hd
  · exact front_clash F F' hd hs
  · have hlen : ∀ u : Txt, (recTie n u).length = 6 + ((strandL (itoa n)).length + (strandL u).length) := by intro u; rw [rec_tie]; simp; omega
    by_cases hqt : t.length = q.length
    · -- the same length
      have hY : (recTie n t).length = (recTie n q).length := by
        have g1 := strand_length t
        have g2 := strand_length q
        rw [hqt] at g1
        rw [hlen, hlen]
        omega
      have hSl : (sealL (recTie n t)).length = (sealL (recTie n q)).length := by rw [seal_length, seal_length, hY]
      obtain ⟨D, hD⟩ : ∃ D, itoa ((sealL (recTie n q)).length : Int) = D := ⟨_, rfl⟩
      have hP : laidL kRec n q = D ++ 58 :: (sealL (recTie n q) ++ [44]) := by rw [rec_page, hD]
      have hP' : laidL kRec n t = D ++ 58 :: (sealL (recTie n t) ++ [44]) := by rw [rec_page, hSl, hD]
      have hlen2 : ((laidL kRec n q).set c y).length = (laidL kRec n t).length := by
        rw [List.length_set, hP, hP']
        simp only [List.length_append, List.length_cons, hSl]
      rw [← hset] at h1
      have h3 := (List.append_inj h1 hlen2).1
      rw [hP] at hx hc h3
      rw [hP'] at h3
      rcases Nat.lt_or_ge c D.length with q1 | q1
      · rw [List.set_append_left _ _ q1] at h3
        rw [List.getElem?_append_left q1] at hx
        have h4 := (List.append_inj h3 (by rw [List.length_set])).1
        have h5 := congrArg (fun l : Txt => l[c]?) h4
        simp only [List.getElem?_set_self q1, hx] at h5
        exact hne (Option.some.inj h5)
      · rw [List.set_append_right _ _ q1] at h3
        rw [List.getElem?_append_right q1] at hx
        have h4 := (List.append_inj h3 rfl).2
        obtain ⟨m, hm⟩ : ∃ m, c - D.length = m := ⟨_, rfl⟩
        rw [hm] at hx h4
        cases m with
        | zero =>
          simp at hx h4
          exact hne (h4.1.trans hx)
        | succ m =>
          simp only [List.set_cons_succ, List.cons.injEq, true_and, List.getElem?_cons_succ] at hx h4
          rcases Nat.lt_or_ge m (sealL (recTie n q)).length with q2 | q2
          · rw [List.set_append_left _ _ q2] at h4
            rw [List.getElem?_append_left q2] at hx
            have h5 := (List.append_inj h4 (by rw [List.length_set, hSl])).1
            exact seal_set _ _ m x y hY hx hne h5
          · rw [List.set_append_right _ _ q2] at h4
            rw [List.getElem?_append_right q2] at hx
            have h5 := (List.append_inj h4 hSl.symm).2
            obtain ⟨i, hi⟩ : ∃ i, m - (sealL (recTie n q)).length = i := ⟨_, rfl⟩
            rw [hi] at hx h5
            cases i with
            | zero => simp at hx h5; exact hne (h5.trans hx)
            | succ i => simp at hx
    · -- another length: the outer number is another one, at the same places
      have hm : (sealL (recTie n q)).length ≠ (sealL (recTie n t)).length := by
        rw [seal_length, seal_length, hlen, hlen]
        rcases Nat.lt_or_ge q.length t.length with g | g
        · have := strand_mono g (by omega)
          omega
        · have := strand_mono (show t.length < q.length by omega) (by omega)
          omega
      obtain ⟨D, hD⟩ : ∃ D, itoa ((sealL (recTie n q)).length : Int) = D := ⟨_, rfl⟩
      obtain ⟨D', hD'⟩ : ∃ D', itoa ((sealL (recTie n t)).length : Int) = D' := ⟨_, rfl⟩
      rw [hD, hD'] at hd
      have hDD : D ≠ D' := by
        intro e
        rw [← hD, ← hD'] at e
        have hb : ∀ u : Txt, u.length ≤ 524288 → (sealL (recTie n u)).length ≤ 600000 := by
          intro u hu
          have l3 := (laid_len kRec n u (by decide) hn hu).1
          rw [rec_page] at l3
          simp only [List.length_append, List.length_cons] at l3
          omega
        have b1 := hb q hq
        have b2 := hb t h2
        have := itoa_inj (by unfold inI64; omega) (by unfold inI64; omega) e
        omega
      have hXq : laidL kRec n q ++ tail = D ++ (58 :: (sealL (recTie n q) ++ [44] ++ tail)) := by rw [rec_page, hD]; simp
      have hXt : laidL kRec n t ++ r = D' ++ (58 :: (sealL (recTie n t) ++ [44] ++ r)) := by rw [rec_page, hD']; simp
      -- the place lies in the outer number
      have hcD : c < D.length := by
        apply Classical.byContradiction
        intro g
        apply hDD
        apply List.ext_getElem?
        intro i
        rcases Nat.lt_or_ge i D.length with g2 | g2
        · have e := hs i (by omega)
          rw [hXq, hXt, List.getElem?_append_left g2, List.getElem?_append_left (by omega)] at e
          exact e
        · rw [List.getElem?_eq_none (by omega), List.getElem?_eq_none (by omega)]
      have hrest : sealL (recTie n q) ++ [44] ++ tail = sealL (recTie n t) ++ [44] ++ r := by
        apply List.ext_getElem?
        intro i
        have e := hs (D.length + (i + 1)) (by omega)
        rw [hXq, hXt, List.getElem?_append_right (by omega), List.getElem?_append_right (by omega)] at e
        rw [show D.length + (i + 1) - D.length = i + 1 by omega, show D.length + (i + 1) - D'.length = i + 1 by omega, List.getElem?_cons_succ, List.getElem?_cons_succ] at e
        exact e
      unfold sealL at hrest
      rw [rec_tie, rec_tie] at hrest
      simp only [List.append_assoc] at hrest
      have h3 := List.append_cancel_left (List.append_cancel_left hrest)
      have f1 := first_strand q (hex8 (sumL ([51, 58, 114, 101, 99, 44] ++ (strandL (itoa n) ++ strandL q))) ++ ([44] ++ tail)) (by have := i2q q hq; unfold maxKnot; rw [strand_length]; omega)
      have f2 := first_strand t (hex8 (sumL ([51, 58, 114, 101, 99, 44] ++ (strandL (itoa n) ++ strandL t))) ++ ([44] ++ r)) (by have := i2q t h2; unfold maxKnot; rw [strand_length]; omega)
      rw [h3, f2] at f1
      have := (Prod.mk.inj (Option.some.inj f1)).1
      exact hqt (by rw [this])
  · exact front_clash F' F hd (fun i hi => (hs i hi).symm)
where i2q (u : Txt) (hu : u.length ≤ 524288) : (itoa (u.length : Int)).length ≤ 20 := itoa_len (by unfold inI64; omega)
end Go.Proofs.YtjmejamgbinigaaDoor
namespace Go.Proofs.YtjmejamgbinigaaDoor
set_option linter.unusedVariables false
set_option linter.unusedSimpArgs false
open Go.RowKit Go.Lib
theorem recPages_app : ∀ (l m : List Txt) (i : Nat), recPages i (l ++ m) = recPages i l ++ recPages (i + l.length) m
  | [], m, i => by simp [recPages]
  | x :: l, m, i => by
    rw [List.cons_append, recPages, recPages, recPages_app l m (i + 1), List.append_assoc, List.length_cons, show i + 1 + l.length = i + (l.length + 1) by omega]
theorem led_split (e : Int) (b : Txt) (l : List Txt) (k : Nat) (x : Txt) (hx : l[k]? = some x) : led e b l = led e b (l.take k) ++ (laidL kRec ((k : Int) + 1) x ++ recPages (k + 2) (l.drop (k + 1))) := by
  have hk := (List.getElem?_eq_some_iff.1 hx).1
  have hl : l = l.take k ++ x :: l.drop (k + 1) := by
    have h := List.take_append_drop k l
    rw [List.drop_eq_getElem_cons hk, (List.getElem?_eq_some_iff.1 hx).2] at h
    exact h.symm
  have hlen : (l.take k).length = k := by simp; omega
  have h2 : led e b l = led e b (l.take k ++ x :: l.drop (k + 1)) := by rw [← hl]
  rw [h2]
  unfold led
  rw [recPages_app, hlen, recPages, List.append_assoc, show ((1 + k : Nat) : Int) = (k : Int) + 1 by omega, show 1 + k + 1 = k + 2 by omega]
/-- A tape that ends at cut, or has another byte there. -/
def spoil (s : Txt) (cut : Nat) (by_ : UInt8) : Txt := if by_ = 0 then s.take cut else s.set cut (s.getD cut 0 ^^^ by_)
theorem spoil_len (s : Txt) (cut : Nat) (by_ : UInt8) : (spoil s cut by_).length ≤ s.length := by
  unfold spoil
  split
  · simp; omega
  · simp
theorem xor_ne (x y : UInt8) (h : y ≠ 0) : x ^^^ y ≠ x := by
  intro e
  apply h
  have := congrArg (fun z => x ^^^ z) e
  simp only [← UInt8.xor_assoc, UInt8.xor_self, UInt8.zero_xor] at this
  exact this
theorem spoil_led (l : List Txt) (k : Nat) (x : Txt) (hx : l[k]? = some x) (hq : x.length ≤ 524288) (hk : k < 100000) (cut : Nat) (by_ : UInt8) (h1 : (led 1 [98] (l.take k)).length ≤ cut) (h2 : cut < (led 1 [98] (l.take (k + 1))).length) :
    ∃ j, spoil (led 1 [98] l) cut by_ = led 1 [98] (l.take k) ++ j ∧ Stop k j := by
  have hin : inI64 ((k : Int) + 1) := by unfold inI64; omega
  rw [led_split 1 [98] l k x hx]
  have ht : l.take (k + 1) = l.take k ++ [x] := by rw [List.take_add_one, hx]; rfl
  have hlen : (l.take k).length = k := by have := (List.getElem?_eq_some_iff.1 hx).1; simp; omega
  rw [ht, led_append, hlen, List.length_append] at h2
  obtain ⟨A, hA⟩ : ∃ A, led 1 [98] (l.take k) = A := ⟨_, rfl⟩
  obtain ⟨T, hT⟩ : ∃ T, recPages (k + 2) (l.drop (k + 1)) = T := ⟨_, rfl⟩
  rw [hA] at h1 h2 ⊢
  rw [hT]
  obtain ⟨c, hc⟩ : ∃ c, cut - A.length = c := ⟨_, rfl⟩
  have hcut : cut = A.length + c := by omega
  unfold spoil
  by_cases hb : by_ = 0
  · rw [if_pos hb]
    refine ⟨(laidL kRec ((k : Int) + 1) x).take c, ?_, stop_none (torn_none _ _ _ (by decide) hin hq _ (by omega))⟩
    rw [hcut, List.take_append, List.take_of_length_le (show A.length ≤ A.length + c by omega), show A.length + c - A.length = c by omega, List.take_append_of_le_length (by omega)]
  · rw [if_neg hb]
    have hcl : c < (laidL kRec ((k : Int) + 1) x).length := by omega
    have hg : (A ++ (laidL kRec ((k : Int) + 1) x ++ T)).getD cut 0 = (laidL kRec ((k : Int) + 1) x)[c] := by
      rw [List.getD_eq_getElem?_getD, List.getElem?_append_right (by omega), hc, List.getElem?_append_left hcl, List.getElem?_eq_getElem hcl]
      rfl
    refine ⟨(laidL kRec ((k : Int) + 1) x).set c ((laidL kRec ((k : Int) + 1) x)[c] ^^^ by_) ++ T, ?_, ?_⟩
    · rw [hg, List.set_append_right _ _ (by omega), hc, List.set_append_left _ _ hcl]
    · intro k' n' t' r' hr he
      obtain ⟨rfl, rfl⟩ := he
      exact spoilt _ x T hin hq c _ _ (List.getElem?_eq_getElem hcl) (xor_ne _ _ hb) t' r' hr
/-- Which records are told. -/
theorem want_is (l : List Txt) (cut : Nat) (h2 : cut < (led 1 [98] l).length) (h1 : (led 1 [98] []).length ≤ cut) :
    ∃ k x, l[k]? = some x ∧ (led 1 [98] (l.take k)).length ≤ cut ∧ cut < (led 1 [98] (l.take (k + 1))).length ∧ ∀ i, i < k → (led 1 [98] (l.take (i + 1))).length ≤ cut := by
  have key : ∀ d k, k + d = l.length → (led 1 [98] (l.take k)).length ≤ cut → (∀ i, i < k → (led 1 [98] (l.take (i + 1))).length ≤ cut) → ∃ k x, l[k]? = some x ∧ (led 1 [98] (l.take k)).length ≤ cut ∧ cut < (led 1 [98] (l.take (k + 1))).length ∧ ∀ i, i < k → (led 1 [98] (l.take (i + 1))).length ≤ cut := by
    intro d
    induction d with
    | zero =>
      intro k hk ha _
      rw [List.take_of_length_le (by omega)] at ha
      omega
    | succ d ih =>
      intro k hk ha hb
      by_cases hc : cut < (led 1 [98] (l.take (k + 1))).length
      · exact ⟨k, l[k], List.getElem?_eq_getElem (by omega), ha, hc, hb⟩
      · refine ih (k + 1) (by omega) (by omega) (fun i hi => ?_)
        rcases Nat.lt_succ_iff_lt_or_eq.1 hi with q | q
        · exact hb i q
        · rw [q]; omega
  exact key l.length 0 (by omega) (by simpa using h1) (fun i hi => by omega)
/-- The reel that somebody else has written on: what opening tells. -/
theorem spoil_after (s : RS) (l : List Txt) (k : Nat) (j : Txt) (hO : s.Ok) (hd : s.dead = false) (hl : s.left = -1) (h0 : s.safe 0 = []) (h0' : s.rest 0 = []) (h1' : s.rest 1 = []) (h1 : s.safe 1 = led 1 [98] (l.take k) ++ j) (hs : Stop k j) (hk : k ≤ l.length) (hll : l.length ≤ 100000) (hq : ∀ q ∈ l, q.length ≤ 524288) :
    After s 1 1 [98] (l.take k) := by
  refine ⟨hO, hd, hl, .inr rfl, h1', h0', ⟨j, h1, ?_⟩, ?_, ⟨Int.le_refl _, by decide, by decide, fun q hm => hq q (List.take_subset _ _ hm), by simp; omega⟩⟩
  · rw [show (l.take k).length = k by simp; omega]
    exact hs
  · rw [show (1 : Int) - 1 = 0 from rfl, h0, scan_none read_nil']
    show (0 : Int) < 1
    decide
end Go.Proofs.YtjmejamgbinigaaDoor
namespace Go.Proofs.YtjmejamgbinigaaDoor
set_option linter.unusedVariables false
set_option linter.unusedSimpArgs false
open Go.RowKit Go.Proofs.YtjmejamgbinigaaDoorW.PrintWords Go.Proofs.YtjmejamgbinigaaDoorW.PrintLast
theorem bytes_frozen (w : World) (e : TypeId) (s : ByteArray) (j : Nat) (hj : j < s.size) : (Lib.bytesWorld w e s).frozen? ⟨w.heap.size, j, none⟩ = false := by
  have hs : (Lib.bytesCells w e s).size = s.size + (grownCap w s.size 0 e - s.size) := by
    unfold Lib.bytesCells
    rw [Array.size_append, Array.size_map, Array.size_replicate]
    rfl
  unfold World.frozen?
  rw [show (⟨w.heap.size, j, none⟩ : Addr).block = w.heap.size from rfl, Lib.bytesWorld_at_new]
  show (decide ((Lib.bytesCells w e s).size ≤ j) && decide (j < (Lib.bytesCells w e s).size + 1)) = false
  rw [hs]
  simp
  omega
/-- A row of cells that reads as the bytes l. -/
def Tells (o : Obj) (l : List UInt8) : Prop := ∃ cs e fr, o = .cells cs e fr ∧ ∀ j (hj : j < l.length), cs[j]? = some (.int .u8 (l[j].toNat : Int))
theorem Tells.string {w : World} {N : Nat} {o : Obj} {l : List UInt8} (h : Tells o l) (hN : w.heap[N]? = some o) (n cap : Nat) (hn : n = l.length) :
    (convert 45 9 (.slice (some ⟨N, 0, none⟩) n cap)).run Tryd.prog w = .ok (.string (str l)) w := by
  obtain ⟨cs, e, fr, rfl, hc⟩ := h
  subst hn
  refine run_convert_bytes_back w _ _ _ ⟨N, 0, none⟩ cap l Tryd.underlying45 Tryd.underlying5 Tryd.underlying9 (fun j hj => ?_)
  rw [show (⟨N, 0, none⟩ : Addr).add j = ⟨N, j, none⟩ from by unfold Addr.add; split <;> simp_all]
  unfold World.cell?
  rw [show (⟨N, j, none⟩ : Addr).block = N from rfl, hN]
  exact hc j hj
theorem Tells.new (w : World) (e : TypeId) (s : ByteArray) (l : List UInt8) (hl : s.data.toList = l) : ∃ o, (Lib.bytesWorld w e s).heap[w.heap.size]? = some o ∧ Tells o l := by
  refine ⟨_, Lib.bytesWorld_at_new w e s, _, _, _, rfl, fun j hj => ?_⟩
  subst hl
  have hj' : j < s.data.size := by simpa using hj
  have hj2 : j < s.size := hj'
  simp [Lib.bytesCells, Array.getElem?_append, hj2, Array.getElem?_eq_getElem hj']
theorem Tells.set {w : World} {N : Nat} {o : Obj} {l : List UInt8} (h : Tells o l) (hN : w.heap[N]? = some o) (k : Nat) (x : UInt8) : ∃ o', (w.setCell ⟨N, k, none⟩ (.int .u8 (x.toNat : Int))).heap[N]? = some o' ∧ Tells o' (l.set k x) := by
  obtain ⟨cs, e, fr, rfl, hc⟩ := h
  refine ⟨.cells (cs.setIfInBounds k (.int .u8 (x.toNat : Int))) e fr, ?_, _, _, _, rfl, fun j hj => ?_⟩
  · simp only [World.setCell, Array.getElem?_modify, hN]
    simp
  · have hj' : j < l.length := by simpa using hj
    rw [Array.getElem?_setIfInBounds, List.getElem_set]
    have := hc j hj'
    split
    · rename_i q
      subst q
      rw [if_pos (Array.getElem?_eq_some_iff.1 this).1]
    · exact this
theorem Tells.take {o : Obj} {l : List UInt8} (h : Tells o l) (n : Nat) : Tells o (l.take n) := by
  obtain ⟨cs, e, fr, rfl, hc⟩ := h
  refine ⟨cs, e, fr, rfl, fun j hj => ?_⟩
  have hj2 : j < l.length := by simp at hj; omega
  rw [hc j hj2]
  simp
theorem xor_byte4 (x y : UInt8) : Go.bits .xor .u8 (x.toNat : Int) (y.toNat : Int) = ((x ^^^ y).toNat : Int) := by
  rw [u8_xor_nat _ _ x.toNat_lt y.toNat_lt, UInt8.toNat_xor]
/-- The reel with one tape written and synced. -/
theorem spoil_reel (T : Txt) (hT : T.length ≤ 100000) : ∃ s1 s2, (RS.new 4194304).write 1 T = (s1, 0) ∧ s1.sync 1 = (s2, 0) ∧ s2.Ok ∧ s2.dead = false ∧ s2.left = -1 ∧ s2.safe 0 = [] ∧ s2.rest 0 = [] ∧ s2.rest 1 = [] ∧ s2.safe 1 = T ∧ s2.room = 4194304 ∧ s2.used = T.length := by
  have hO : (RS.new 4194304).Ok := ⟨by show (0 : Int) ≤ 4194304; omega, by show (4194304 : Int) ≤ 4194304; omega, by show (0 : Int) ≤ 4194304; omega, by show (-9223372036854775808 : Int) ≤ -1; decide, by show (-1 : Int) ≤ 9223372036854775807; decide⟩
  have hfree : (RS.new 4194304).free = 4194304 := by show (4194304 : Int) - 0 - 0 = 4194304; omega
  rcases write_cases (RS.new 4194304) 1 T (.inr rfl) rfl hO (by omega) with ⟨q, _⟩ | ⟨s1, hw, u1⟩
  · exact absurd q (by show ¬ (-1 : Int) = 0; decide)
  · rcases sync_cases s1 1 (.inr rfl) u1.dead u1.ok with ⟨q, _⟩ | ⟨s2, hy, u2⟩
    · have := u1.left rfl
      omega
    · have x0 := u2.safe
      rw [u1.safe, u1.rest] at x0
      have x0' : s2.safe 1 = T := x0
      have x1 : s2.safe 0 = [] := u2.safe'.trans u1.safe'
      have x2 : s2.rest 0 = [] := u2.rest'.trans u1.rest'
      refine ⟨s1, s2, hw, hy, u2.ok, u2.dead, u2.left (u1.left rfl), x1, x2, u2.rest, x0', u2.room.trans u1.room, ?_⟩
      rw [used_eq s2 0 (.inl rfl), x1, x2]
      show 0 + 0 + ((s2.safe 1).length + (s2.rest 1).length) = _
      rw [x0', u2.rest]
      simp
theorem own_write {w0 w : World} {b : Nat} {s : RS} {fp : List Nat} (h : MineL w0 w b s fp) (t : Int) (q : ByteArray) (s' : RS) (e : Int) (he : s.write t (bsL q) = (s', e)) (hq : (q.size : Int) ≤ 4194304) :
    Calls Tryd.prog 20 #[.pointer (some ⟨b, 0, none⟩), .int .i64 t, .string q] w fun r w' => r = .returned (.int .i64 e) ∧ ∃ fp', MineL w0 w' b s' fp' := by
  refine (write_any b t s fp w q h.at_ hq).mono ?_
  rintro r w' ⟨rfl, hp⟩
  have he' : s.write t q.data.toList = (s', e) := he
  rw [he'] at hp ⊢
  obtain ⟨fp', hm, _⟩ := h.next hp
  exact ⟨rfl, fp', hm⟩
theorem own_sync {w0 w : World} {b : Nat} {s : RS} {fp : List Nat} (h : MineL w0 w b s fp) (t : Int) (s' : RS) (e : Int) (he : s.sync t = (s', e)) :
    Calls Tryd.prog 21 #[.pointer (some ⟨b, 0, none⟩), .int .i64 t] w fun r w' => r = .returned (.int .i64 e) ∧ ∃ fp', MineL w0 w' b s' fp' := by
  refine (sync_any b t s fp w h.at_).mono ?_
  rintro r w' ⟨rfl, hp⟩
  rw [he] at hp ⊢
  obtain ⟨fp', hm, _⟩ := h.next hp
  exact ⟨rfl, fp', hm⟩
end Go.Proofs.YtjmejamgbinigaaDoor
namespace Go.Proofs.YtjmejamgbinigaaDoor
set_option linter.unusedVariables false
set_option linter.unusedSimpArgs false
open Go.RowKit Go.Lib
set_option maxHeartbeats 1600000 in
theorem digits_small (n : Nat) (h : n < 10) (w : World) : Calls Tryd.prog 49 #[.int .u64 n] w fun e w' => e = .returned (.string (str (decDigits n))) ∧ Below w.heap.size w w' := by
  rw [dec_small h]
  have hn : n = 0 ∨ n = 1 ∨ n = 2 ∨ n = 3 ∨ n = 4 ∨ n = 5 ∨ n = 6 ∨ n = 7 ∨ n = 8 ∨ n = 9 := by omega
  have hb := hd (Below.refl w.heap.size w)
  rcases hn with rfl | rfl | rfl | rfl | rfl | rfl | rfl | rfl | rfl | rfl
  all_goals
    go_enter Tryd.func49, Tryd.ntmps49
    go_wp2
    go_ret
    exact ⟨rfl, hb.out⟩
set_option maxHeartbeats 1600000 in
theorem digits_big (n : Nat) (h : ¬ n < 10) (hn : n < 18446744073709551616) (w : World)
    (h1 : Hd (∀ w1, Below w.heap.size w w1 → Calls Tryd.prog 49 #[.int .u64 ((n / 10 : Nat) : Int)] w1 fun e w' => e = .returned (.string (str (decDigits (n / 10)))) ∧ Below w.heap.size w w'))
    (h2 : Hd (∀ w1, Below w.heap.size w w1 → Calls Tryd.prog 49 #[.int .u64 ((n % 10 : Nat) : Int)] w1 fun e w' => e = .returned (.string (str (decDigits (n % 10)))) ∧ Below w.heap.size w w')) :
    Calls Tryd.prog 49 #[.int .u64 n] w fun e w' => e = .returned (.string (str (decDigits n))) ∧ Below w.heap.size w w' := by
  have hp : (10 : Nat) ^ (19 + 1) = 100000000000000000000 := by decide
  have hz1 : (str (decDigits (n / 10))).size ≤ 20 := by rw [str_size]; exact dec_len 19 _ (by rw [hp]; omega)
  have hz2 : (str (decDigits (n % 10))).size ≤ 20 := by rw [str_size]; exact dec_len 19 _ (by rw [hp]; omega)
  clear hp
  have hb := hd (Below.refl w.heap.size w)
  have hge : ¬ (n : Int) < 10 := by omega
  go_enter Tryd.func49, Tryd.ntmps49
  go_wp2_with (fail)
  refine (h1.out _ hb.out).mono ?_
  rintro e w1 ⟨rfl, hb1⟩
  have HB1 := hd hb1
  clear hb1
  go_wp2_with (fail)
  refine (h2.out _ HB1.out).mono ?_
  rintro e w2 ⟨rfl, hb2⟩
  have HB2 := hd hb2
  clear hb2
  go_wp2_with (fail)
  go_ret
  refine ⟨?_, HB2.out⟩
  have hlt : n % 10 < 10 := Nat.mod_lt _ (by decide)
  rw [dec_big h, dec_small hlt]
  rw [show ∀ l m : List UInt8, str l ++ str m = str (l ++ m) from fun l m => ByteArray.mk_append_mk l m]
  rfl
theorem digits_text : ∀ (n : Nat), n < 18446744073709551616 → ∀ w : World, Calls Tryd.prog 49 #[.int .u64 n] w fun e w' => e = .returned (.string (str (decDigits n))) ∧ Below w.heap.size w w' := by
  intro n
  induction n using Nat.strongRecOn with
  | _ n ih =>
    intro hn w
    by_cases h : n < 10
    · exact digits_small n h w
    · have hl : n % 10 < 10 := Nat.mod_lt _ (by decide)
      refine digits_big n h hn w (hd fun w1 hb => ?_) (hd fun w1 hb => ?_)
      · exact (ih (n / 10) (by omega) (by omega) w1).mono fun e w' ⟨h1, h2⟩ => ⟨h1, hb.trans (h2.mono hb.size)⟩
      · exact (digits_small (n % 10) hl w1).mono fun e w' ⟨h1, h2⟩ => ⟨h1, hb.trans (h2.mono hb.size)⟩
set_option maxHeartbeats 1600000 in
theorem num_ref (n : Nat) (hn : n < 9223372036854775808) (w : World) : Calls Tryd.prog 40 #[.int .i64 n] w fun e w' => e = .returned (.string (str (itoa (n : Int)))) ∧ Below w.heap.size w w' := by
  rw [itoa_nat]
  have hw : IntKind.u64.wrap (n : Int) = n := by
    rw [IntKind.wrap_u64]
    omega
  have HD := hd (digits_text n (by omega) w)
  have h0 : ¬ (n : Int) < 0 := by omega
  go_enter Tryd.func40, Tryd.ntmps40
  go_wp2_with (go_at_call 49; refine HD.out.mono ?_; rintro e w' ⟨rfl, hb⟩)
  go_ret
  exact ⟨rfl, hb⟩
set_option maxHeartbeats 1600000 in
theorem strand_ref (x : ByteArray) (hx : x.size ≤ 4294967000) (w : World) : Calls Tryd.prog 37 #[.string x] w fun e w' => e = .returned (.string (str (strandL (bsL x)))) ∧ Below w.heap.size w w' := by
  have hlen : (itoa (x.size : Int)).length ≤ 20 := itoa_len (by unfold inI64; omega)
  have HN := hd (num_ref x.size (by omega) w)
  obtain ⟨D, hD⟩ : ∃ D, itoa (x.size : Int) = D := ⟨_, rfl⟩
  rw [hD] at HN hlen
  have hs : strandL (bsL x) = D ++ 58 :: (bsL x ++ [44]) := by unfold strandL; rw [bs_size, hD]
  rw [hs]
  have hz : (str D).size ≤ 20 := by rw [str_size]; exact hlen
  have z1 : (str D ++ (⟨#[58]⟩ : ByteArray)).size = (str D).size + 1 := by rw [ByteArray.size_append]; rfl
  have z2 : (str D ++ (⟨#[58]⟩ : ByteArray) ++ x).size = (str D).size + 1 + x.size := by rw [ByteArray.size_append, z1]
  have hfin : str D ++ (⟨#[58]⟩ : ByteArray) ++ x ++ (⟨#[44]⟩ : ByteArray) = str (D ++ 58 :: (bsL x ++ [44])) := by
    apply bs_inj
    simp [bsL, str]
  have HF := hd hfin
  clear hfin hD hs
  go_enter Tryd.func37, Tryd.ntmps37
  go_wp2_with (go_at_call 40; refine HN.out.mono ?_; rintro e w' ⟨rfl, hb⟩)
  go_ret
  exact ⟨by rw [← HF.out]; rfl, hb⟩
end Go.Proofs.YtjmejamgbinigaaDoor
namespace Go.Proofs.YtjmejamgbinigaaDoor.XRp
open Go.RowKit Go.Proofs.YtjmejamgbinigaaDoorW.PrintWords Go.Proofs.YtjmejamgbinigaaDoorW.PrintLast Go.Proofs.YtjmejamgbinigaaDoorW.PrintMore
attribute [local go_sem] max2_int min2_int max_two min_two max_three min_three max_four min_four   -- for this text's walks alone
set_option linter.unusedVariables false
set_option linter.unusedSimpArgs false



def errW : Option Int → Value
  | none => .nilIface
  | some c => .iface 0 (.int .i64 c)
theorem errW_none : errW none = .nilIface := rfl
theorem errW_some (c : Int) : errW (some c) = .iface 0 (.int .i64 c) := rfl

theorem info9 : (Tryd.prog.info? 9).map (fun i => (i.zero, i.size, i.bytes)) = some (some (.string ⟨#[]⟩), 1, 16) := by kernel_rfl
-- the values' own types

end Go.Proofs.YtjmejamgbinigaaDoor.XRp
namespace Go.Proofs.YtjmejamgbinigaaDoor.XRp
open Go.RowKit Go.Proofs.YtjmejamgbinigaaDoorW.PrintWords Go.Proofs.YtjmejamgbinigaaDoorW.PrintLast Go.Proofs.YtjmejamgbinigaaDoorW.PrintMore
attribute [local go_sem] max2_int min2_int max_two min_two max_three min_three max_four min_four   -- for this text's walks alone
set_option linter.unusedVariables false
set_option linter.unusedSimpArgs false

/-! ### furlongref01_Strand: function 37: given -/
def furlongref01_Strand.f (a0 : ByteArray) : Option (ByteArray) := if a0.size ≤ 4294967000 then some (str (strandL (bsL a0))) else none
theorem furlongref01_Strand.calls (a0 : ByteArray) (r : ByteArray) (w : World) (h : furlongref01_Strand.f a0 = some r) :
    Calls Tryd.prog 37 #[.string a0] w fun e w' => e = .returned (.string r) ∧ Below w.heap.size w w' := by
  unfold furlongref01_Strand.f at h
  split at h
  · rename_i hc
    obtain rfl := Option.some.inj h
    exact strand_ref a0 hc w
  · cases h


/-! ### furlongref01_Sum: function 48 -/
def furlongref01_Sum.l0 : Nat → ByteArray → Int → Int → Int → Option (Int)
  | 0, _, _, _, _ => none
  | k + 1, x0, x3, x4, x5 => if x5 < (x0.size : Int) then (if 0 ≤ x5 then (furlongref01_Sum.l0 k x0 (((x3 + ((bt x0 x5) % 4294967296)) % 4294967296) % 65521) (((x4 + (((x3 + ((bt x0 x5) % 4294967296)) % 4294967296) % 65521)) % 4294967296) % 65521) (wrap64 (x5 + 1))) else (none)) else (some (Go.bits .or .u32 ((x4 * 65536) % 4294967296) x3))
def furlongref01_Sum.f (k : Nat) (a0 : ByteArray) : Option (Int) := furlongref01_Sum.l0 k a0 1 0 0
theorem furlongref01_Sum.mono_l : ∀ k, (∀ y0 y1 y2 y3, LeO (furlongref01_Sum.l0 k y0 y1 y2 y3) (furlongref01_Sum.l0 (k + 1) y0 y1 y2 y3))
  | 0 => fun _ _ _ _ r h => by simp [furlongref01_Sum.l0] at h
  | k + 1 => by
    have ih0 := furlongref01_Sum.mono_l k
    · intro y0 y1 y2 y3
      unfold furlongref01_Sum.l0
      repeat' first
      | (with_reducible exact ih0 _ _ _ _)
      | (with_reducible exact LeO.refl _)
      | (with_reducible exact LeO.none _)
      | (with_reducible refine LeO.ite ?_ ?_)
      | (with_reducible refine LeO.bind ?_ (fun _ => ?_))
      | exact ih0 _ _ _ _
      | exact LeO.none _
      | refine LeO.ite ?_ ?_
      | refine LeO.bind ?_ (fun _ => ?_)
theorem furlongref01_Sum.mono : ∀ a0 k, LeO (furlongref01_Sum.f k a0) (furlongref01_Sum.f (k + 1) a0) := by
  intro a0 k
  have ih0 := furlongref01_Sum.mono_l k
  unfold furlongref01_Sum.f
  repeat' first
      | (with_reducible exact ih0 _ _ _ _)
      | (with_reducible exact LeO.refl _)
      | (with_reducible exact LeO.none _)
      | (with_reducible refine LeO.ite ?_ ?_)
      | (with_reducible refine LeO.bind ?_ (fun _ => ?_))
      | exact ih0 _ _ _ _
      | exact LeO.none _
      | refine LeO.ite ?_ ?_
      | refine LeO.bind ?_ (fun _ => ?_)
set_option maxHeartbeats 8000000 in
set_option maxRecDepth 100000 in
theorem furlongref01_Sum.calls (k : Nat) (a0 : ByteArray) (r : Int) (w : World) (h : furlongref01_Sum.f k a0 = some r) :
    Calls Tryd.prog 48 #[.string a0] w fun e w' => e = .returned (.int .u32 r) ∧ Drawn0 w w' := by
  have H : (furlongref01_Sum.l0 k a0 1 0 0) = some r := h
  clear h
  have H' := Aside0.mk H
  clear H
  go_enter Tryd.func48, Tryd.ntmps48
  go_wp2
  go_loopg [3, 4, 5] k (fun kq v3 v4 v5 w' => ∃ (x3_1 : Int) (x4_1 : Int) (x5_1 : Int), v3 = .int .u32 x3_1 ∧ v4 = .int .u32 x4_1 ∧ v5 = .int .i64 x5_1 ∧ Aside0 (furlongref01_Sum.l0 kq a0 x3_1 x4_1 x5_1 = some r) ∧ Aside0 (kq ≤ k) ∧ Drawn0 w w')
  case atStart => exact ⟨(1), (0), (0), (by first | rfl | (simp; done) | (simp [*]; done)), (by first | rfl | (simp; done) | (simp [*]; done)), (by first | rfl | (simp; done) | (simp [*]; done)), H', ⟨Nat.le_refl _⟩, by repeat (first | exact Drawn0.refl _ | apply Drawn0.step)⟩
  case round =>
    clear H'
    obtain ⟨x3_1, x4_1, x5_1, rfl, rfl, rfl, HA, HK1, ⟨m1, rfl⟩⟩ := hrel
    cases gk with
    | zero => exact absurd HA.out (by simp [furlongref01_Sum.l0])
    | succ k1 =>
      have H := HA.out
      clear HA
      simp only [furlongref01_Sum.l0] at H
      by_cases c2 : x5_1 < (a0.size : Int)
      · rw [if_pos c2] at H
        have c2b0 : decide (x5_1 < (a0.size : Int)) = true := decide_eq_true c2
        clear c2
        by_cases c3 : 0 ≤ x5_1
        · rw [if_pos c3] at H
          have c3b0 : decide (0 ≤ x5_1) = true := decide_eq_true c3
          clear c3
          have H' := Aside0.mk H
          clear H
          have p4 : 0 ≤ (x5_1 : Int) := of_decide_eq_true (by first | (with_reducible assumption) | assumption)
          have q4 : x5_1 < (a0.size : Int) := of_decide_eq_true (by first | (with_reducible assumption) | assumption)
          have hx4 := bt_at a0 x5_1
          replace p4 := eq_true p4
          replace q4 := eq_true q4
          go_wp2
          go_roundg k1
          case measure => have := HK1.out; omega
          case rel => exact ⟨(((x3_1 + ((bt a0 x5_1) % 4294967296)) % 4294967296) % 65521), (((x4_1 + (((x3_1 + ((bt a0 x5_1) % 4294967296)) % 4294967296) % 65521)) % 4294967296) % 65521), (wrap64 (x5_1 + 1)), (by first | rfl | (simp; done) | (simp [*]; done)), (by first | rfl | (simp; done) | (simp [*]; done)), (by first | rfl | (simp; done) | (simp [*]; done)), H', ⟨by have := HK1.out; omega⟩, by repeat (first | exact Drawn0.refl _ | apply Drawn0.step)⟩
        · rw [if_neg c3] at H
          exact absurd H (by simp)
      · rw [if_neg c2] at H
        have c2b0 : decide (x5_1 < (a0.size : Int)) = false := decide_eq_false c2
        clear c2
        obtain rfl := Option.some.inj H
        go_wp2
        go_ret
        exact ⟨by first | rfl | (simp; done) | (simp [*]; done), by repeat (first | exact Drawn0.refl _ | apply Drawn0.step)⟩

/-! ### furlongref01_Seal: function 38 -/
def furlongref01_Seal.l0 : Nat → ByteArray → Int → Int → Option (ByteArray)
  | 0, _, _, _ => none
  | k + 1, x0, x3, x4 => if x4 < 8 then (if 0 ≤ (IntKind.u64.wrap (wrap64 (28 - (wrap64 (4 * x4))))) then (if 0 ≤ (Go.bits .and .u32 (shr .u32 x3 (IntKind.u64.wrap (wrap64 (28 - (wrap64 (4 * x4)))))) 15) then (if (Go.bits .and .u32 (shr .u32 x3 (IntKind.u64.wrap (wrap64 (28 - (wrap64 (4 * x4)))))) 15) ≤ (((Go.bits .and .u32 (shr .u32 x3 (IntKind.u64.wrap (wrap64 (28 - (wrap64 (4 * x4)))))) 15) + 1) % 4294967296) then (if (((Go.bits .and .u32 (shr .u32 x3 (IntKind.u64.wrap (wrap64 (28 - (wrap64 (4 * x4)))))) 15) + 1) % 4294967296) ≤ 16 then (if x0.size + ((⟨#[48, 49, 50, 51, 52, 53, 54, 55, 56, 57, 97, 98, 99, 100, 101, 102]⟩ : ByteArray).extract ((Go.bits .and .u32 (shr .u32 x3 (IntKind.u64.wrap (wrap64 (28 - (wrap64 (4 * x4)))))) 15) : Int).toNat ((((Go.bits .and .u32 (shr .u32 x3 (IntKind.u64.wrap (wrap64 (28 - (wrap64 (4 * x4)))))) 15) + 1) % 4294967296) : Int).toNat).size ≤ 9223372036854775807 then (furlongref01_Seal.l0 k (x0 ++ ((⟨#[48, 49, 50, 51, 52, 53, 54, 55, 56, 57, 97, 98, 99, 100, 101, 102]⟩ : ByteArray).extract ((Go.bits .and .u32 (shr .u32 x3 (IntKind.u64.wrap (wrap64 (28 - (wrap64 (4 * x4)))))) 15) : Int).toNat ((((Go.bits .and .u32 (shr .u32 x3 (IntKind.u64.wrap (wrap64 (28 - (wrap64 (4 * x4)))))) 15) + 1) % 4294967296) : Int).toNat)) x3 (wrap64 (x4 + 1))) else (none)) else (none)) else (none)) else (none)) else (none)) else (some x0)
def furlongref01_Seal.f (k : Nat) (a0 : ByteArray) : Option (ByteArray) := (furlongref01_Sum.f k a0).bind fun t101 => (furlongref01_Seal.l0 k a0 t101 0)
theorem furlongref01_Seal.mono_l : ∀ k, (∀ y0 y1 y2, LeO (furlongref01_Seal.l0 k y0 y1 y2) (furlongref01_Seal.l0 (k + 1) y0 y1 y2))
  | 0 => fun _ _ _ r h => by simp [furlongref01_Seal.l0] at h
  | k + 1 => by
    have ih0 := furlongref01_Seal.mono_l k
    · intro y0 y1 y2
      unfold furlongref01_Seal.l0
      repeat' first
      | (with_reducible exact ih0 _ _ _)
      | (with_reducible exact furlongref01_Sum.mono _ _)
      | (with_reducible exact LeO.refl _)
      | (with_reducible exact LeO.none _)
      | (with_reducible refine LeO.ite ?_ ?_)
      | (with_reducible refine LeO.bind ?_ (fun _ => ?_))
      | exact ih0 _ _ _
      | exact furlongref01_Sum.mono _ _
      | exact LeO.none _
      | refine LeO.ite ?_ ?_
      | refine LeO.bind ?_ (fun _ => ?_)
theorem furlongref01_Seal.mono : ∀ a0 k, LeO (furlongref01_Seal.f k a0) (furlongref01_Seal.f (k + 1) a0) := by
  intro a0 k
  have ih0 := furlongref01_Seal.mono_l k
  unfold furlongref01_Seal.f
  repeat' first
      | (with_reducible exact ih0 _ _ _)
      | (with_reducible exact furlongref01_Sum.mono _ _)
      | (with_reducible exact LeO.refl _)
      | (with_reducible exact LeO.none _)
      | (with_reducible refine LeO.ite ?_ ?_)
      | (with_reducible refine LeO.bind ?_ (fun _ => ?_))
      | exact ih0 _ _ _
      | exact furlongref01_Sum.mono _ _
      | exact LeO.none _
      | refine LeO.ite ?_ ?_
      | refine LeO.bind ?_ (fun _ => ?_)
set_option maxHeartbeats 8000000 in
set_option maxRecDepth 100000 in
theorem furlongref01_Seal.calls (k : Nat) (a0 : ByteArray) (r : ByteArray) (w : World) (h : furlongref01_Seal.f k a0 = some r) :
    Calls Tryd.prog 38 #[.string a0] w fun e w' => e = .returned (.string r) ∧ Drawn0 w w' := by
  have H : ((furlongref01_Sum.f k a0).bind fun t101 => (furlongref01_Seal.l0 k a0 t101 0)) = some r := h
  clear h
  replace H := Option.bind_eq_some_iff.mp H
  obtain ⟨t101, A20, H⟩ := H
  replace H : (furlongref01_Seal.l0 k a0 t101 0) = some r := H
  have A2 := Aside0.mk A20
  clear A20
  have H' := Aside0.mk H
  clear H
  go_enter Tryd.func38, Tryd.ntmps38
  go_wp2_with (first | ((with_reducible refine gate_callee (f := 48) rfl ?_); refine goesL_ (some 7) rfl rfl Tryd.func48 (by kernel_rfl) rfl #[.string a0] rfl (by (try simp only [List.map_toArray, List.map_cons, List.map_nil]); first | done | rfl | (simp only [List.length_drop, List.length_take]; rfl)) ?_; (with_reducible refine (furlongref01_Sum.calls k a0 t101 _ A2.out).mono ?_); rintro e w' ⟨rfl, ⟨nd, rfl⟩⟩; refine ⟨_, rfl, ?_⟩))
  go_loopg [0, 4] k (fun kq v0 v4 w' => ∃ (x0_1 : ByteArray) (x4_1 : Int), v0 = .string x0_1 ∧ v4 = .int .i64 x4_1 ∧ Aside0 (furlongref01_Seal.l0 kq x0_1 t101 x4_1 = some r) ∧ Aside0 (kq ≤ k) ∧ Drawn0 w w')
  case atStart => exact ⟨(a0), (0), (by first | rfl | (simp; done) | (simp [*]; done)), (by first | rfl | (simp; done) | (simp [*]; done)), H', ⟨Nat.le_refl _⟩, by repeat (first | exact Drawn0.refl _ | apply Drawn0.step)⟩
  case round =>
    clear H'
    try clear p2
    obtain ⟨x0_1, x4_1, rfl, rfl, HA, HK1, ⟨m1, rfl⟩⟩ := hrel
    cases gk with
    | zero => exact absurd HA.out (by simp [furlongref01_Seal.l0])
    | succ k1 =>
      have H := HA.out
      clear HA
      simp only [furlongref01_Seal.l0] at H
      by_cases c3 : x4_1 < 8
      · rw [if_pos c3] at H
        have c3b0 : decide (x4_1 < 8) = true := decide_eq_true c3
        clear c3
        obtain ⟨ji4, hji4⟩ : ∃ j_ : Int, (IntKind.u64.wrap (wrap64 (28 - (wrap64 (4 * x4_1))))) = j_ := ⟨_, rfl⟩
        replace H : (if 0 ≤ (ji4) then (if 0 ≤ (Go.bits .and .u32 (shr .u32 t101 (ji4)) 15) then (if (Go.bits .and .u32 (shr .u32 t101 (ji4)) 15) ≤ (((Go.bits .and .u32 (shr .u32 t101 (ji4)) 15) + 1) % 4294967296) then (if (((Go.bits .and .u32 (shr .u32 t101 (ji4)) 15) + 1) % 4294967296) ≤ 16 then (if x0_1.size + ((⟨#[48, 49, 50, 51, 52, 53, 54, 55, 56, 57, 97, 98, 99, 100, 101, 102]⟩ : ByteArray).extract ((Go.bits .and .u32 (shr .u32 t101 (ji4)) 15) : Int).toNat ((((Go.bits .and .u32 (shr .u32 t101 (ji4)) 15) + 1) % 4294967296) : Int).toNat).size ≤ 9223372036854775807 then (furlongref01_Seal.l0 k1 (x0_1 ++ ((⟨#[48, 49, 50, 51, 52, 53, 54, 55, 56, 57, 97, 98, 99, 100, 101, 102]⟩ : ByteArray).extract ((Go.bits .and .u32 (shr .u32 t101 (ji4)) 15) : Int).toNat ((((Go.bits .and .u32 (shr .u32 t101 (ji4)) 15) + 1) % 4294967296) : Int).toNat)) t101 (wrap64 (x4_1 + 1))) else (none)) else (none)) else (none)) else (none)) else (none)) = some r := by first | (rw [hji4] at H; exact H) | (simp only [hji4] at H ⊢; exact H)
        by_cases c5 : 0 ≤ (ji4)
        · rw [if_pos c5] at H
          have c5b0 := eq_true c5
          have c5b1 : decide (0 ≤ (ji4)) = true := decide_eq_true c5
          clear c5
          obtain ⟨ji6, hji6⟩ : ∃ j_ : Int, (shr .u32 t101 (ji4)) = j_ := ⟨_, rfl⟩
          replace H : (if 0 ≤ (Go.bits .and .u32 (ji6) 15) then (if (Go.bits .and .u32 (ji6) 15) ≤ (((Go.bits .and .u32 (ji6) 15) + 1) % 4294967296) then (if (((Go.bits .and .u32 (ji6) 15) + 1) % 4294967296) ≤ 16 then (if x0_1.size + ((⟨#[48, 49, 50, 51, 52, 53, 54, 55, 56, 57, 97, 98, 99, 100, 101, 102]⟩ : ByteArray).extract ((Go.bits .and .u32 (ji6) 15) : Int).toNat ((((Go.bits .and .u32 (ji6) 15) + 1) % 4294967296) : Int).toNat).size ≤ 9223372036854775807 then (furlongref01_Seal.l0 k1 (x0_1 ++ ((⟨#[48, 49, 50, 51, 52, 53, 54, 55, 56, 57, 97, 98, 99, 100, 101, 102]⟩ : ByteArray).extract ((Go.bits .and .u32 (ji6) 15) : Int).toNat ((((Go.bits .and .u32 (ji6) 15) + 1) % 4294967296) : Int).toNat)) t101 (wrap64 (x4_1 + 1))) else (none)) else (none)) else (none)) else (none)) = some r := by first | (rw [hji6] at H; exact H) | (simp only [hji6] at H ⊢; exact H)
          have hji6_ : (t101 / 2 ^ min (ji4).toNat 32) = ji6 := hji6
          have hji6z : (ji4) ≤ 32 → (t101 / 2 ^ (ji4).toNat) = ji6 := shr_small hji6
          by_cases c7 : 0 ≤ (Go.bits .and .u32 (ji6) 15)
          · rw [if_pos c7] at H
            have c7b0 := eq_true c7
            have c7b1 : decide (0 ≤ (Go.bits .and .u32 (ji6) 15)) = true := decide_eq_true c7
            clear c7
            by_cases c8 : (Go.bits .and .u32 (ji6) 15) ≤ (((Go.bits .and .u32 (ji6) 15) + 1) % 4294967296)
            · rw [if_pos c8] at H
              have c8b0 := eq_true c8
              have c8b1 : decide ((Go.bits .and .u32 (ji6) 15) ≤ (((Go.bits .and .u32 (ji6) 15) + 1) % 4294967296)) = true := decide_eq_true c8
              by_cases c9 : (((Go.bits .and .u32 (ji6) 15) + 1) % 4294967296) ≤ 16
              · rw [if_pos c9] at H
                have c9b0 := eq_true c9
                have c9b1 : decide ((((Go.bits .and .u32 (ji6) 15) + 1) % 4294967296) ≤ 16) = true := decide_eq_true c9
                by_cases c10 : x0_1.size + ((⟨#[48, 49, 50, 51, 52, 53, 54, 55, 56, 57, 97, 98, 99, 100, 101, 102]⟩ : ByteArray).extract ((Go.bits .and .u32 (ji6) 15) : Int).toNat ((((Go.bits .and .u32 (ji6) 15) + 1) % 4294967296) : Int).toNat).size ≤ 9223372036854775807
                · rw [if_pos c10] at H
                  have c10b0 := eq_true c10
                  have c10b1 : decide (x0_1.size + ((⟨#[48, 49, 50, 51, 52, 53, 54, 55, 56, 57, 97, 98, 99, 100, 101, 102]⟩ : ByteArray).extract ((Go.bits .and .u32 (ji6) 15) : Int).toNat ((((Go.bits .and .u32 (ji6) 15) + 1) % 4294967296) : Int).toNat).size ≤ 9223372036854775807) = true := decide_eq_true c10
                  try have c10b2 : (9223372036854775807 < x0_1.size + ((⟨#[48, 49, 50, 51, 52, 53, 54, 55, 56, 57, 97, 98, 99, 100, 101, 102]⟩ : ByteArray).extract ((Go.bits .and .u32 (ji6) 15) : Int).toNat ((((Go.bits .and .u32 (ji6) 15) + 1) % 4294967296) : Int).toNat).size) = False := eq_false (Nat.not_lt.2 c10)
                  have H' := Aside0.mk H
                  clear H
                  go_wp2
                  go_roundg k1
                  case measure => have := HK1.out; omega
                  case rel => exact ⟨(x0_1 ++ ((⟨#[48, 49, 50, 51, 52, 53, 54, 55, 56, 57, 97, 98, 99, 100, 101, 102]⟩ : ByteArray).extract ((Go.bits .and .u32 (ji6) 15) : Int).toNat ((((Go.bits .and .u32 (ji6) 15) + 1) % 4294967296) : Int).toNat)), (wrap64 (x4_1 + 1)), (by first | rfl | (simp; done) | (simp only [← hji6] <;> (first | rfl | simp)) | (simp [*]; done)), (by first | rfl | (simp; done) | (simp [*]; done)), H', ⟨by have := HK1.out; omega⟩, by repeat (first | exact Drawn0.refl _ | apply Drawn0.step)⟩
                · rw [if_neg c10] at H
                  exact absurd H (by simp)
              · rw [if_neg c9] at H
                exact absurd H (by simp)
            · rw [if_neg c8] at H
              exact absurd H (by simp)
          · rw [if_neg c7] at H
            exact absurd H (by simp)
        · rw [if_neg c5] at H
          exact absurd H (by simp)
      · rw [if_neg c3] at H
        have c3b0 : decide (x4_1 < 8) = false := decide_eq_false c3
        clear c3
        obtain rfl := Option.some.inj H
        go_wp2
        go_ret
        exact ⟨by first | rfl | (simp; done) | (simp [*]; done), by repeat (first | exact Drawn0.refl _ | apply Drawn0.step)⟩

/-! ### furlongref01_Tie: function 39 -/
def furlongref01_Tie.l0 : Nat → List ByteArray → ByteArray → Int → Option (ByteArray)
  | 0, _, _, _ => none
  | k + 1, x0, x3, x4 => if x4 < (x0.length : Int) then (if 0 ≤ x4 then ((furlongref01_Strand.f (rdOf ByteArray.empty x0 x4)).bind fun t103 => (if x3.size + t103.size ≤ 9223372036854775807 then (furlongref01_Tie.l0 k x0 (x3 ++ t103) (wrap64 (x4 + 1))) else (none))) else (none)) else (some x3)
def furlongref01_Tie.f (k : Nat) (l0 : List ByteArray) : Option (ByteArray) := furlongref01_Tie.l0 k l0 (⟨#[]⟩ : ByteArray) 0
theorem furlongref01_Tie.mono_l : ∀ k, (∀ y0 y1 y2, LeO (furlongref01_Tie.l0 k y0 y1 y2) (furlongref01_Tie.l0 (k + 1) y0 y1 y2))
  | 0 => fun _ _ _ r h => by simp [furlongref01_Tie.l0] at h
  | k + 1 => by
    have ih0 := furlongref01_Tie.mono_l k
    · intro y0 y1 y2
      unfold furlongref01_Tie.l0
      repeat' first
      | (with_reducible exact ih0 _ _ _)
      | (with_reducible exact LeO.refl _)
      | (with_reducible exact LeO.none _)
      | (with_reducible refine LeO.ite ?_ ?_)
      | (with_reducible refine LeO.bind ?_ (fun _ => ?_))
      | exact ih0 _ _ _
      | exact LeO.none _
      | refine LeO.ite ?_ ?_
      | refine LeO.bind ?_ (fun _ => ?_)
theorem furlongref01_Tie.mono : ∀ a0 k, LeO (furlongref01_Tie.f k a0) (furlongref01_Tie.f (k + 1) a0) := by
  intro a0 k
  have ih0 := furlongref01_Tie.mono_l k
  unfold furlongref01_Tie.f
  repeat' first
      | (with_reducible exact ih0 _ _ _)
      | (with_reducible exact LeO.refl _)
      | (with_reducible exact LeO.none _)
      | (with_reducible refine LeO.ite ?_ ?_)
      | (with_reducible refine LeO.bind ?_ (fun _ => ?_))
      | exact ih0 _ _ _
      | exact LeO.none _
      | refine LeO.ite ?_ ?_
      | refine LeO.bind ?_ (fun _ => ?_)
set_option maxHeartbeats 8000000 in
set_option maxRecDepth 100000 in
theorem furlongref01_Tie.calls (k : Nat) (A0 : Option Addr) (c0 : Nat) (l0 : List ByteArray) (r : ByteArray) (w : World) (hr0 : Kd.C Kd.string w A0 l0.length l0) (hc0 : l0.length ≤ c0) (h : furlongref01_Tie.f k l0 = some r) :
    Calls Tryd.prog 39 #[.slice A0 l0.length c0] w fun e w' => e = .returned (.string r) ∧ Below w.heap.size w w' := by
  have HR0 := Aside0.mk hr0
  have HC0 := Aside0.mk hc0
  clear hr0 hc0
  have HB := Aside0.mk (Below.refl w.heap.size w)
  have H : (furlongref01_Tie.l0 k l0 (⟨#[]⟩ : ByteArray) 0) = some r := h
  clear h
  have H' := Aside0.mk H
  clear H
  go_enter Tryd.func39, Tryd.ntmps39
  go_wp2
  go_loopg [3, 4] k (fun kq v3 v4 w' => ∃ (x3_1 : ByteArray) (x4_1 : Int), v3 = .string x3_1 ∧ v4 = .int .i64 x4_1 ∧ Aside0 (furlongref01_Tie.l0 kq l0 x3_1 x4_1 = some r) ∧ Aside0 (kq ≤ k) ∧ Aside0 (Below w.heap.size w w'))
  case atStart => exact ⟨((⟨#[]⟩ : ByteArray)), (0), (by first | rfl | (simp; done) | (simp [*]; done)), (by first | rfl | (simp; done) | (simp [*]; done)), H', ⟨Nat.le_refl _⟩, ⟨by repeat (first | (with_reducible first | exact HB.out | apply below_alloc | apply pw_below_drewN | apply below_drew1) | exact HB.out)⟩⟩
  case round =>
    clear H'
    obtain ⟨x3_1, x4_1, rfl, rfl, HA, HK1, HB⟩ := hrel
    cases gk with
    | zero => exact absurd HA.out (by simp [furlongref01_Tie.l0])
    | succ k1 =>
      have H := HA.out
      clear HA
      simp only [furlongref01_Tie.l0] at H
      by_cases c2 : x4_1 < (l0.length : Int)
      · rw [if_pos c2] at H
        have c2b0 : decide (x4_1 < (l0.length : Int)) = true := decide_eq_true c2
        clear c2
        by_cases c3 : 0 ≤ x4_1
        · rw [if_pos c3] at H
          have c3b0 : decide (0 ≤ x4_1) = true := decide_eq_true c3
          clear c3
          replace H := Option.bind_eq_some_iff.mp H
          obtain ⟨t103, A40, H⟩ := H
          replace H : (if x3_1.size + t103.size ≤ 9223372036854775807 then (furlongref01_Tie.l0 k1 l0 (x3_1 ++ t103) (wrap64 (x4_1 + 1))) else (none)) = some r := H
          have A4 := Aside0.mk A40
          clear A40
          by_cases c5 : x3_1.size + t103.size ≤ 9223372036854775807
          · rw [if_pos c5] at H
            have c5b0 := eq_true c5
            have c5b1 : decide (x3_1.size + t103.size ≤ 9223372036854775807) = true := decide_eq_true c5
            try have c5b2 : (9223372036854775807 < x3_1.size + t103.size) = False := eq_false (Nat.not_lt.2 c5)
            have H' := Aside0.mk H
            clear H
            have p102 : 0 ≤ (x4_1 : Int) := of_decide_eq_true (by first | (with_reducible assumption) | assumption)
            have q102 : x4_1 < (l0.length : Int) := of_decide_eq_true (by first | (with_reducible assumption) | assumption)
            obtain ⟨ad102, e102, hx102_0⟩ := Kd.at_string HR0.out x4_1 p102 q102
            cases e102
            replace hx102_0 := (HB.out.cell (World.block_lt_of_cell? w _ hx102_0)).trans hx102_0
            replace p102 := eq_true p102
            replace q102 := eq_true q102
            go_wp2_with (first | ((with_reducible refine gate_callee (f := 37) rfl ?_); refine goesL_ (some 16) rfl rfl Tryd.func37 (by kernel_rfl) rfl #[.string (rdOf ByteArray.empty l0 x4_1)] rfl (by (try simp only [List.map_toArray, List.map_cons, List.map_nil]); first | done | rfl | (simp only [List.length_drop, List.length_take]; rfl)) ?_; (with_reducible refine (furlongref01_Strand.calls (rdOf ByteArray.empty l0 x4_1) t103 _ A4.out).mono ?_); rintro e w6 ⟨rfl, hb⟩; refine ⟨_, rfl, ?_⟩; have n0_ := Aside0.mk (below_step (by repeat (first | (with_reducible first | exact HB.out | apply below_alloc | apply pw_below_drewN | apply below_drew1) | exact HB.out)) hb); clear HB; have HB := n0_; clear n0_; (try clear hb); (try clear hb2); (try clear hk); (try clear hi)))
            go_roundg k1
            case measure => have := HK1.out; omega
            case rel => exact ⟨(x3_1 ++ t103), (wrap64 (x4_1 + 1)), (by first | rfl | (simp; done) | (simp [*]; done)), (by first | rfl | (simp; done) | (simp [*]; done)), H', ⟨by have := HK1.out; omega⟩, ⟨by repeat (first | (with_reducible first | exact HB.out | apply below_alloc | apply pw_below_drewN | apply below_drew1) | exact HB.out)⟩⟩
          · rw [if_neg c5] at H
            exact absurd H (by simp)
        · rw [if_neg c3] at H
          exact absurd H (by simp)
      · rw [if_neg c2] at H
        have c2b0 : decide (x4_1 < (l0.length : Int)) = false := decide_eq_false c2
        clear c2
        obtain rfl := Option.some.inj H
        go_wp2
        go_ret
        exact ⟨by first | rfl | (simp [errW_none, errW_some] <;> rfl) | (simp [*, errW_none, errW_some] <;> rfl), by repeat (first | (with_reducible first | exact HB.out | apply below_alloc | apply pw_below_drewN | apply below_drew1) | exact HB.out)⟩

/-! ### furlongref01_Num: function 40: given -/
def furlongref01_Num.f (a0 : Int) : Option (ByteArray) := if 0 ≤ a0 ∧ a0 < 9223372036854775808 then some (str (Lib.itoa a0)) else none
theorem furlongref01_Num.calls (a0 : Int) (r : ByteArray) (w : World) (h : furlongref01_Num.f a0 = some r) :
    Calls Tryd.prog 40 #[.int .i64 a0] w fun e w' => e = .returned (.string r) ∧ Below w.heap.size w w' := by
  unfold furlongref01_Num.f at h
  split at h
  · rename_i hc
    obtain rfl := Option.some.inj h
    have := num_ref a0.toNat (by omega) w
    rwa [Int.toNat_of_nonneg hc.1] at this
  · cases h


/-! ### furlongref04_Page: function 19 -/
def furlongref04_Page.f (k : Nat) (a0 : ByteArray) (a1 : Int) (a2 : ByteArray) : Option (ByteArray) := (furlongref01_Num.f a1).bind fun t104 => ((furlongref01_Tie.f k (([a0, t104, a2] : List ByteArray))).bind fun t108 => ((furlongref01_Seal.f k t108).bind fun t109 => ((furlongref01_Strand.f t109).bind fun t110 => (some t110))))
theorem furlongref04_Page.mono : ∀ a0 a1 a2 k, LeO (furlongref04_Page.f k a0 a1 a2) (furlongref04_Page.f (k + 1) a0 a1 a2) := by
  intro a0 a1 a2 k
  unfold furlongref04_Page.f
  repeat' first
      | (with_reducible exact furlongref01_Seal.mono _ _)
      | (with_reducible exact furlongref01_Tie.mono _ _)
      | (with_reducible exact LeO.refl _)
      | (with_reducible exact LeO.none _)
      | (with_reducible refine LeO.ite ?_ ?_)
      | (with_reducible refine LeO.bind ?_ (fun _ => ?_))
      | exact furlongref01_Seal.mono _ _
      | exact furlongref01_Tie.mono _ _
      | exact LeO.none _
      | refine LeO.ite ?_ ?_
      | refine LeO.bind ?_ (fun _ => ?_)
set_option maxHeartbeats 8000000 in
set_option maxRecDepth 100000 in
theorem furlongref04_Page.calls (k : Nat) (a0 : ByteArray) (a1 : Int) (a2 : ByteArray) (r : ByteArray) (w : World) (h : furlongref04_Page.f k a0 a1 a2 = some r) :
    Calls Tryd.prog 19 #[.string a0, .int .i64 a1, .string a2] w fun e w' => e = .returned (.string r) ∧ Below w.heap.size w w' := by
  have HB := Aside0.mk (Below.refl w.heap.size w)
  have H : ((furlongref01_Num.f a1).bind fun t104 => ((furlongref01_Tie.f k (([a0, t104, a2] : List ByteArray))).bind fun t108 => ((furlongref01_Seal.f k t108).bind fun t109 => ((furlongref01_Strand.f t109).bind fun t110 => (some t110))))) = some r := h
  clear h
  replace H := Option.bind_eq_some_iff.mp H
  obtain ⟨t104, A40, H⟩ := H
  replace H : ((furlongref01_Tie.f k (([a0, t104, a2] : List ByteArray))).bind fun t108 => ((furlongref01_Seal.f k t108).bind fun t109 => ((furlongref01_Strand.f t109).bind fun t110 => (some t110)))) = some r := H
  have A4 := Aside0.mk A40
  clear A40
  obtain ⟨y105, hy105⟩ : ∃ y_ : List ByteArray, y_ = (([a0, t104, a2] : List ByteArray)) := ⟨_, rfl⟩
  replace H : ((furlongref01_Tie.f k y105).bind fun t108 => ((furlongref01_Seal.f k t108).bind fun t109 => ((furlongref01_Strand.f t109).bind fun t110 => (some t110)))) = some r := by first | (rw [hy105]; with_reducible exact H) | (have H2_ := (Option.bind_some _ _).symm.trans H; rw [hy105]; with_reducible exact H2_) | (have H2_ := (Option.bind_some _ _).symm.trans H; with_reducible exact H2_) | with_reducible exact H | (rw [hy105]; exact H) | exact H
  have Ny105 := Aside0.mk hy105
  clear hy105
  replace H := Option.bind_eq_some_iff.mp H
  obtain ⟨t108, A50, H⟩ := H
  replace H : ((furlongref01_Seal.f k t108).bind fun t109 => ((furlongref01_Strand.f t109).bind fun t110 => (some t110))) = some r := H
  have A5 := Aside0.mk A50
  clear A50
  replace H := Option.bind_eq_some_iff.mp H
  obtain ⟨t109, A60, H⟩ := H
  replace H : ((furlongref01_Strand.f t109).bind fun t110 => (some t110)) = some r := H
  have A6 := Aside0.mk A60
  clear A60
  replace H := Option.bind_eq_some_iff.mp H
  obtain ⟨t110, A70, H⟩ := H
  replace H : (some t110) = some r := H
  have A7 := Aside0.mk A70
  clear A70
  obtain rfl := Option.some.inj H
  go_enter Tryd.func19, Tryd.ntmps19
  go_wp2_with (first | ((with_reducible refine gate_callee (f := 40) rfl ?_); refine goesL_ (some 9) rfl rfl Tryd.func40 (by kernel_rfl) rfl #[.int .i64 a1] rfl (by (try simp only [List.map_toArray, List.map_cons, List.map_nil]); first | done | rfl | (simp only [List.length_drop, List.length_take]; rfl)) ?_; (with_reducible refine (furlongref01_Num.calls a1 t104 _ A4.out).mono ?_); rintro e w8 ⟨rfl, hb⟩; refine ⟨_, rfl, ?_⟩; have n0_ := Aside0.mk (below_step (by repeat (first | (with_reducible first | exact HB.out | apply below_alloc | apply pw_below_drewN | apply below_drew1) | exact HB.out)) hb); clear HB; have HB := n0_; clear n0_; (try clear hb); (try clear hb2); (try clear hk); (try clear hi)) | ((with_reducible refine gate_dst (N := 11) rfl ?_); refine Kd.R_lit Kd.string _ 9 ?hg (N := 11) ?hd (xs := ([a0, t104, a2] : List ByteArray)) (inner := [.string a0, .string t104, .string a2]) (ok := fun _ => True) (okp := fun _ => True) ?hr ?hp (fun _ hk => hk) trivial (Below.refl _ _) (Nat.le_refl _) (by simp) ?_; (case hd => rfl); (case hg => rfl); (case hr => first | (go_simp; done) | (go_simp; rfl)); (case hp => exact (Reps.one (show Kd.M Kd.string _ _ _ a0 [.string a0] from rfl) (Reps.one (show Kd.M Kd.string _ _ _ t104 [.string t104] from rfl) (Reps.one (show Kd.M Kd.string _ _ _ a2 [.string a2] from rfl) (Reps.none _ _))))); intro v106 w9 ho10 hb hg_ hnew_; clear hg_ hnew_; (first | rw [← Ny105.out] at ho10 | (simp only [Int.reduceToNat] at ho10; rw [← Ny105.out] at ho10)); have n0_ := Aside0.mk (Kd.R_lower ho10 (below_size (by repeat (first | (with_reducible first | exact HB.out | apply below_alloc | apply pw_below_drewN | apply below_drew1) | exact HB.out)))); have n1_ := Aside0.mk (below_step (by repeat (first | (with_reducible first | exact HB.out | apply below_alloc | apply pw_below_drewN | apply below_drew1) | exact HB.out)) hb); clear HB; have HO107 := n0_; have HB := n1_; clear n0_ n1_; clear hb ho10; obtain ⟨Ao11, co11, eo11⟩ := Kd.R_slice HO107.out; subst eo11) | ((with_reducible refine gate_callee (f := 39) rfl ?_); refine goesL_ (some 12) rfl rfl Tryd.func39 (by kernel_rfl) rfl #[.slice Ao11 y105.length co11] rfl (by (try simp only [List.map_toArray, List.map_cons, List.map_nil]); first | done | rfl | (simp only [List.length_drop, List.length_take]; rfl)) ?_; (with_reducible refine (furlongref01_Tie.calls k _ _ y105 t108 _ ?side1 ?side2 A5.out).mono ?_); (case side1 => repeat (first | exact (Kd.R_reads' HO107.out).2.2 | (with_reducible refine Kd.C_alloc ?_ _) | (with_reducible refine Kd.C_drewN ?_ _) | (with_reducible refine Kd.C_drew ?_))); (case side2 => exact (Kd.R_reads' HO107.out).2.1); rintro e w12 ⟨rfl, hb⟩; refine ⟨_, rfl, ?_⟩; have n0_ := Aside0.mk (Kd.R_below (by (with_reducible repeat (first | apply Kd.R_alloc | apply Kd.R_drewN | apply Kd.R_drew)); exact HO107.out) hb); have n1_ := Aside0.mk (below_step (by repeat (first | (with_reducible first | exact HB.out | apply below_alloc | apply pw_below_drewN | apply below_drew1) | exact HB.out)) hb); clear HO107; clear HB; have HO107 := n0_; have HB := n1_; clear n0_ n1_; (try clear hb); (try clear hb2); (try clear hk); (try clear hi)) | ((with_reducible refine gate_callee (f := 38) rfl ?_); refine goesL_ (some 13) rfl rfl Tryd.func38 (by kernel_rfl) rfl #[.string t108] rfl (by (try simp only [List.map_toArray, List.map_cons, List.map_nil]); first | done | rfl | (simp only [List.length_drop, List.length_take]; rfl)) ?_; (with_reducible refine (furlongref01_Seal.calls k t108 t109 _ A6.out).mono ?_); rintro e w' ⟨rfl, ⟨nd, rfl⟩⟩; refine ⟨_, rfl, ?_⟩) | ((with_reducible refine gate_callee (f := 37) rfl ?_); refine goesL_ (some 14) rfl rfl Tryd.func37 (by kernel_rfl) rfl #[.string t109] rfl (by (try simp only [List.map_toArray, List.map_cons, List.map_nil]); first | done | rfl | (simp only [List.length_drop, List.length_take]; rfl)) ?_; (with_reducible refine (furlongref01_Strand.calls t109 t110 _ A7.out).mono ?_); rintro e w13 ⟨rfl, hb⟩; refine ⟨_, rfl, ?_⟩; have n0_ := Aside0.mk (Kd.R_below (by (with_reducible repeat (first | apply Kd.R_alloc | apply Kd.R_drewN | apply Kd.R_drew)); exact HO107.out) hb); have n1_ := Aside0.mk (below_step (by repeat (first | (with_reducible first | exact HB.out | apply below_alloc | apply pw_below_drewN | apply below_drew1) | exact HB.out)) hb); clear HO107; clear HB; have HO107 := n0_; have HB := n1_; clear n0_ n1_; (try clear hb); (try clear hb2); (try clear hk); (try clear hi)))
  go_ret
  exact ⟨by first | rfl | (simp [errW_none, errW_some] <;> rfl) | (simp [*, errW_none, errW_some] <;> rfl), by repeat (first | (with_reducible first | exact HB.out | apply below_alloc | apply pw_below_drewN | apply below_drew1) | exact HB.out)⟩

end Go.Proofs.YtjmejamgbinigaaDoor.XRp
namespace Go.Proofs.YtjmejamgbinigaaDoor.XRp
open Go.RowKit Go.Proofs.YtjmejamgbinigaaDoorW.PrintWords Go.Proofs.YtjmejamgbinigaaDoorW.PrintLast Go.Proofs.YtjmejamgbinigaaDoorW.PrintMore
attribute [local go_sem] max2_int min2_int max_two min_two max_three min_three max_four min_four   -- for this text's walks alone
set_option linter.unusedVariables false
set_option linter.unusedSimpArgs false

end Go.Proofs.YtjmejamgbinigaaDoor.XRp
namespace Go.Proofs.YtjmejamgbinigaaDoor
set_option linter.unusedVariables false
set_option linter.unusedSimpArgs false
open Go.RowKit Go.Lib Go.Proofs.YtjmejamgbinigaaDoor.XRp Go.Proofs.YtjmejamgbinigaaDoorW.PrintWords Go.Proofs.YtjmejamgbinigaaDoorW.PrintLast Go.Proofs.YtjmejamgbinigaaDoorW.PrintMore
theorem rsum_loop (s : ByteArray) (hs : s.size ≤ 4294967000) : ∀ (d i a b K : Nat), i + d = s.size → d + 1 ≤ K → a < 65521 → b < 65521 →
    furlongref01_Sum.l0 K s (a : Int) (b : Int) (i : Int) = some (((sumGo ((bsL s).drop i) (a, b)).2 * 65536 + (sumGo ((bsL s).drop i) (a, b)).1 : Nat) : Int)
  | 0, i, a, b, K, h, hK, ha, hb => by
    cases K with
    | zero => omega
    | succ K =>
      rw [furlongref01_Sum.l0, if_neg (by omega), List.drop_eq_nil_of_le (by rw [bs_size]; omega)]
      show some (Go.bits .or .u32 (((b : Int) * 65536) % 4294967296) (a : Int)) = some ((b * 65536 + a : Nat) : Int)
      rw [← sum_or a b ha hb, show ((b : Int) * 65536) % 4294967296 = (b : Int) * 65536 by omega]
  | d + 1, i, a, b, K, h, hK, ha, hb => by
    cases K with
    | zero => omega
    | succ K =>
      have hi : i < s.size := by omega
      rw [furlongref01_Sum.l0, if_pos (by omega), if_pos (by omega), bs_get s i hi]
      have hbt : bt s (i : Int) = (s[i].toNat : Int) := by unfold bt; simp [hi]
      have hx := (s[i]).toNat_lt
      rw [hbt, wrap_id (by omega) (by omega)]
      have e1 : (((a : Int) + ((s[i].toNat : Int) % 4294967296)) % 4294967296) % 65521 = (((a + s[i].toNat) % 65521 : Nat) : Int) := by omega
      rw [e1]
      have hA : (a + s[i].toNat) % 65521 < 65521 := Nat.mod_lt _ (by decide)
      have e2 : (((b : Int) + (((a + s[i].toNat) % 65521 : Nat) : Int)) % 4294967296) % 65521 = (((b + (a + s[i].toNat) % 65521) % 65521 : Nat) : Int) := by omega
      rw [e2, show ((i : Int) + 1) = ((i + 1 : Nat) : Int) by omega, rsum_loop s hs d (i + 1) _ _ K (by omega) (by omega) hA (Nat.mod_lt _ (by decide))]
      rfl
theorem rsum_eq (s : ByteArray) (hs : s.size ≤ 4294967000) (K : Nat) (hK : s.size + 1 ≤ K) : furlongref01_Sum.f K s = some ((sumL (bsL s) : Nat) : Int) := by
  have := rsum_loop s hs s.size 0 1 0 K (by omega) hK (by decide) (by decide)
  exact this
theorem tab_at (d : Nat) (h : d < 16) : (⟨#[48, 49, 50, 51, 52, 53, 54, 55, 56, 57, 97, 98, 99, 100, 101, 102]⟩ : ByteArray).extract d (d + 1) = str [hexD d] := by
  have hn : d = 0 ∨ d = 1 ∨ d = 2 ∨ d = 3 ∨ d = 4 ∨ d = 5 ∨ d = 6 ∨ d = 7 ∨ d = 8 ∨ d = 9 ∨ d = 10 ∨ d = 11 ∨ d = 12 ∨ d = 13 ∨ d = 14 ∨ d = 15 := by omega
  rcases hn with rfl | rfl | rfl | rfl | rfl | rfl | rfl | rfl | rfl | rfl | rfl | rfl | rfl | rfl | rfl | rfl <;> rfl
theorem rseal_step (K : Nat) (x : ByteArray) (n : Nat) (hn : n < 4294967296) (i : Nat) (hi : i < 8) (hx : x.size ≤ 4294967296) :
    furlongref01_Seal.l0 (K + 1) x (n : Int) (i : Int) = furlongref01_Seal.l0 K (x ++ str [hexD (n / 16 ^ (7 - i) % 16)]) (n : Int) ((i + 1 : Nat) : Int) := by
  have hw : IntKind.u64.wrap (wrap64 (28 - (wrap64 (4 * (i : Int))))) = ((28 - 4 * i : Nat) : Int) := by
    rw [IntKind.wrap_u64]
    unfold wrap64
    omega
  have hp : (2 : Nat) ^ (28 - 4 * i) = 16 ^ (7 - i) := by
    have hc : i = 0 ∨ i = 1 ∨ i = 2 ∨ i = 3 ∨ i = 4 ∨ i = 5 ∨ i = 6 ∨ i = 7 := by omega
    rcases hc with rfl | rfl | rfl | rfl | rfl | rfl | rfl | rfl <;> rfl
  have hd : Go.bits .and .u32 (shr .u32 (n : Int) ((28 - 4 * i : Nat) : Int)) 15 = ((n / 16 ^ (7 - i) % 16 : Nat) : Int) := by
    have h1 : shr .u32 (n : Int) ((28 - 4 * i : Nat) : Int) = ((n / 16 ^ (7 - i) : Nat) : Int) := by
      unfold shr
      rw [Int.toNat_natCast, show min (28 - 4 * i) (IntKind.u32.bits) = 28 - 4 * i from Nat.min_eq_left (by show 28 - 4 * i ≤ 32; omega), ← hp]
      simp
    have hlt : n / 16 ^ (7 - i) < 4294967296 := Nat.lt_of_le_of_lt (Nat.div_le_self _ _) hn
    rw [h1, show (15 : Int) = ((15 : Nat) : Int) from rfl, u32_and_nat _ _ hlt (by decide)]
    have := Nat.and_two_pow_sub_one_eq_mod (n / 16 ^ (7 - i)) 4
    rw [show (2 : Nat) ^ 4 - 1 = 15 from rfl, show (2 : Nat) ^ 4 = 16 from rfl] at this
    rw [this]
  rw [furlongref01_Seal.l0, hw, hd]
  obtain ⟨D, hD⟩ : ∃ D, n / 16 ^ (7 - i) % 16 = D := ⟨_, rfl⟩
  have hD16 : D < 16 := by rw [← hD]; exact Nat.mod_lt _ (by decide)
  rw [hD, show (((D : Int) + 1) % 4294967296) = ((D + 1 : Nat) : Int) by omega, Int.toNat_natCast, Int.toNat_natCast, tab_at D hD16]
  have hz : (str [hexD D]).size = 1 := rfl
  rw [if_pos (by omega), if_pos (by omega), if_pos (by omega), if_pos (by omega), if_pos (by omega), if_pos (by rw [hz]; omega), wrap_id (by omega) (by omega)]
  rfl
theorem rseal_eq (s : ByteArray) (hs : s.size ≤ 4294960000) (K : Nat) (hK : s.size + 9 ≤ K) : furlongref01_Seal.f K s = some (str (sealL (bsL s))) := by
  unfold furlongref01_Seal.f
  rw [rsum_eq s (by omega) K (by omega)]
  show furlongref01_Seal.l0 K s (sumL (bsL s) : Nat) 0 = _
  have hn : sumL (bsL s) < 4294967296 := by
    have h1 := sum_fst' (bsL s) 1 0 (by decide) (by decide)
    unfold sumL
    omega
  obtain ⟨n, hnn⟩ : ∃ n, sumL (bsL s) = n := ⟨_, rfl⟩
  rw [hnn] at hn ⊢
  obtain ⟨k, rfl⟩ : ∃ k, K = k + 1 + 1 + 1 + 1 + 1 + 1 + 1 + 1 + 1 := ⟨K - 9, by omega⟩
  have zz : ∀ (x : ByteArray) (d : UInt8), (x ++ str [d]).size = x.size + 1 := fun x d => by rw [ByteArray.size_append]; rfl
  have h0 : (0 : Int) = ((0 : Nat) : Int) := rfl
  rw [h0, rseal_step _ _ n hn 0 (by decide) (by omega), rseal_step _ _ n hn 1 (by decide) (by rw [zz]; omega), rseal_step _ _ n hn 2 (by decide) (by rw [zz, zz]; omega), rseal_step _ _ n hn 3 (by decide) (by rw [zz, zz, zz]; omega),
    rseal_step _ _ n hn 4 (by decide) (by rw [zz, zz, zz, zz]; omega), rseal_step _ _ n hn 5 (by decide) (by rw [zz, zz, zz, zz, zz]; omega), rseal_step _ _ n hn 6 (by decide) (by rw [zz, zz, zz, zz, zz, zz]; omega), rseal_step _ _ n hn 7 (by decide) (by rw [zz, zz, zz, zz, zz, zz, zz]; omega)]
  rw [furlongref01_Seal.l0, if_neg (by decide)]
  congr 1
  apply bs_inj
  unfold sealL
  rw [hnn, bs_of]
  have ha : ∀ (x : ByteArray) (d : UInt8), bsL (x ++ str [d]) = bsL x ++ [d] := fun x d => by simp [bsL, str]
  rw [ha, ha, ha, ha, ha, ha, ha, ha]
  unfold hex8
  simp only [List.append_assoc, List.cons_append, List.nil_append]
  simp
where sum_fst' : ∀ (l : Txt) (a b : Nat), a < 65521 → b < 65521 → (sumGo l (a, b)).1 < 65521 ∧ (sumGo l (a, b)).2 < 65521
  | [], a, b, ha, hb => ⟨ha, hb⟩
  | c :: l, a, b, ha, hb => by
    rw [sumGo]
    exact sum_fst' l _ _ (Nat.mod_lt _ (by decide)) (Nat.mod_lt _ (by decide))
theorem rtie_eq (a b c : ByteArray) (ha : a.size ≤ 1000000) (hb : b.size ≤ 1000000) (hc : c.size ≤ 1000000) (K : Nat) (hK : 4 ≤ K) : furlongref01_Tie.f K [a, b, c] = some (str (tieL [bsL a, bsL b, bsL c])) := by
  unfold furlongref01_Tie.f
  obtain ⟨k, rfl⟩ : ∃ k, K = k + 1 + 1 + 1 + 1 := ⟨K - 4, by omega⟩
  have S : ∀ x : ByteArray, x.size ≤ 1000000 → furlongref01_Strand.f x = some (str (strandL (bsL x))) := fun x hx => if_pos (by omega)
  have Z : ∀ x : ByteArray, x.size ≤ 1000000 → (str (strandL (bsL x))).size ≤ 1000030 := by
    intro x hx
    rw [str_size, strand_length, bs_size]
    have := itoa_len (v := (x.size : Int)) (by unfold inI64; omega)
    omega
  have r0 : rdOf ByteArray.empty [a, b, c] 0 = a := rfl
  have r1 : rdOf ByteArray.empty [a, b, c] 1 = b := rfl
  have r2 : rdOf ByteArray.empty [a, b, c] 2 = c := rfl
  have za := Z a ha
  have zb := Z b hb
  have zc := Z c hc
  have e0 : (⟨#[]⟩ : ByteArray).size = 0 := rfl
  rw [furlongref01_Tie.l0, if_pos (by show (0 : Int) < ((3 : Nat) : Int); decide), if_pos (by decide), r0, S a ha]
  simp only [Option.bind_some]
  rw [if_pos (by rw [e0]; omega), show wrap64 (0 + 1) = 1 from wrap_id (by omega) (by omega), furlongref01_Tie.l0, if_pos (by show (1 : Int) < ((3 : Nat) : Int); decide), if_pos (by decide), r1, S b hb]
  simp only [Option.bind_some]
  rw [if_pos (by rw [ByteArray.size_append, e0]; omega), show wrap64 (1 + 1) = 2 from wrap_id (by omega) (by omega), furlongref01_Tie.l0, if_pos (by show (2 : Int) < ((3 : Nat) : Int); decide), if_pos (by decide), r2, S c hc]
  simp only [Option.bind_some]
  rw [if_pos (by rw [ByteArray.size_append, ByteArray.size_append, e0]; omega), show wrap64 (2 + 1) = 3 from wrap_id (by omega) (by omega), furlongref01_Tie.l0, if_neg (by show ¬ (3 : Int) < ((3 : Nat) : Int); decide)]
  congr 1
  apply bs_inj
  simp [bsL, str, tieL]
theorem laid_size' (k : Txt) (n : Int) (q : Txt) (hk : k.length ≤ 4) (hn : inI64 n) (hq : q.length ≤ 524288) : (tieL [k, itoa n, q]).length ≤ 600000 := by
  have i1 := itoa_len hn
  have i2 : ∀ m : Nat, m ≤ 1048576 → (itoa (m : Int)).length ≤ 20 := fun m hm => itoa_len (by unfold inI64; omega)
  have l1 := strand_length k
  have l2 := strand_length (itoa n)
  have l3 := strand_length q
  have j1 := i2 k.length (by omega)
  have j2 := i2 (itoa n).length (by omega)
  have j3 := i2 q.length (by omega)
  have lt : (tieL [k, itoa n, q]).length = (strandL k).length + ((strandL (itoa n)).length + (strandL q).length) := by simp [tieL]
  omega
theorem page_eq (k : ByteArray) (n : Int) (q : ByteArray) (hk : k.size ≤ 4) (h0 : 0 ≤ n) (hn : inI64 n) (hq : q.size ≤ 524288) (K : Nat) (hK : 700000 ≤ K) : furlongref04_Page.f K k n q = some (str (laidL (bsL k) n (bsL q))) := by
  have hl := laid_size' (bsL k) n (bsL q) (by rw [bs_size]; exact hk) hn (by rw [bs_size]; exact hq)
  have i1 := itoa_len hn
  unfold furlongref04_Page.f
  have e1 : furlongref01_Num.f n = some (str (itoa n)) := if_pos ⟨h0, by unfold inI64 at hn; omega⟩
  rw [e1]
  simp only [Option.bind_some]
  rw [rtie_eq k (str (itoa n)) q (by omega) (by rw [str_size]; omega) (by omega) K (by omega)]
  simp only [Option.bind_some, bs_of]
  rw [rseal_eq _ (by rw [str_size]; omega) K (by rw [str_size]; omega)]
  simp only [Option.bind_some, bs_of]
  have e2 : furlongref01_Strand.f (str (sealL (tieL [bsL k, itoa n, bsL q]))) = some (str (strandL (bsL (str (sealL (tieL [bsL k, itoa n, bsL q])))))) := if_pos (by rw [str_size, seal_length]; omega)
  rw [e2, bs_of]
  rfl
theorem page_call (k : ByteArray) (n : Int) (q : ByteArray) (w : World) (hk : k.size ≤ 4) (h0 : 0 ≤ n) (hn : inI64 n) (hq : q.size ≤ 524288) :
    Calls Tryd.prog 19 #[.string k, .int .i64 n, .string q] w fun e w' => e = .returned (.string (str (laidL (bsL k) n (bsL q)))) ∧ Below w.heap.size w w' :=
  furlongref04_Page.calls 700000 k n q _ w (page_eq k n q hk h0 hn hq 700000 (Nat.le_refl _))
end Go.Proofs.YtjmejamgbinigaaDoor
namespace Go.Proofs.YtjmejamgbinigaaDoor
set_option linter.unusedVariables false
set_option linter.unusedSimpArgs false
open Go.RowKit Go.Proofs.YtjmejamgbinigaaDoorW.PrintWords Go.Proofs.YtjmejamgbinigaaDoorW.PrintLast
/-- The tape behind k records. -/
def tapeK (l : List ByteArray) (k : Nat) : Txt := led 1 [98] ((l.take k).map bsL)
def endsK (l : List ByteArray) (k : Nat) : List Value := (List.range k).map fun i => Value.int .i64 ((tapeK l (i + 1)).length : Int)
theorem tapeK_succ (l : List ByteArray) (k : Nat) (x : ByteArray) (h : l[k]? = some x) : tapeK l (k + 1) = tapeK l k ++ laidL kRec ((k : Int) + 1) (bsL x) := by
  have hk := (List.getElem?_eq_some_iff.1 h).1
  unfold tapeK
  rw [take_map_succ l k x h, led_append]
  have : ((l.take k).map bsL).length = k := by simp; omega
  rw [this]
theorem endsK_succ (l : List ByteArray) (k : Nat) : endsK l (k + 1) = endsK l k ++ [Value.int .i64 ((tapeK l (k + 1)).length : Int)] := by
  unfold endsK
  rw [List.range_succ, List.map_append]
  rfl
theorem endsK_length (l : List ByteArray) (k : Nat) : (endsK l k).length = k := by simp [endsK]
theorem endsK_one (l : List ByteArray) (k : Nat) : ∀ y ∈ endsK l k, y.oneCell' = true := by
  intro y hy
  obtain ⟨i, _, rfl⟩ := List.mem_map.1 hy
  rfl
theorem tapeK_len (l : List ByteArray) (hq : ∀ x ∈ l, x.size ≤ 8000) (hl : l.length ≤ 50) : ∀ k, k ≤ l.length → (tapeK l k).length ≤ 141 + tot l k + 140 * k
  | 0, _ => by
    have := (laid_len kBase 1 [98] (by decide) (by unfold inI64; omega) (by decide)).1
    simp [tapeK, led, recPages, tot] at *
    omega
  | k + 1, hk => by
    obtain ⟨x, hx⟩ : ∃ x, l[k]? = some x := ⟨_, List.getElem?_eq_getElem (by omega)⟩
    have ih := tapeK_len l hq hl k (by omega)
    have h1 := (laid_len kRec ((k : Int) + 1) (bsL x) (by decide) (by unfold inI64; omega) (by have := hq x (List.mem_of_getElem? hx); rw [bs_size]; omega)).1
    rw [bs_size] at h1
    rw [tapeK_succ l k x hx, List.length_append, tot_succ l k x hx]
    omega
theorem int_info : (Tryd.prog.info? 3).map (fun i => (i.zero, i.size, i.bytes)) = some (some (.int .i64 0), 1, 8) := by kernel_rfl
structure IntSt (W1 : World) (v : Value) (xs : List Value) (cur : World) : Prop where
  row : Row cur 3 v xs
  own : ∀ k, v.ownBlock = some k → W1.heap.size ≤ k
  below : Below W1.heap.size W1 cur
theorem IntSt.step {W1 cur w' : World} {v v' : Value} {xs ys : List Value} (h : IntSt W1 v xs cur) (hr : Row w' 3 v' (xs ++ ys)) (hg : cur.grownBy w' v.ownBlock) (hb : v'.ownBlock = v.ownBlock ∨ v'.ownBlock = some cur.heap.size) : IntSt W1 v' (xs ++ ys) w' := by
  have hs := h.below.size
  refine ⟨hr, fun k hk => ?_, h.below.trans ⟨hg.os, hg.tape, hg.output, hg.size, fun k hk => hg.block k (by omega) (fun q => by have := h.own k q.symm; omega)⟩⟩
  rcases hb with q | q
  · rw [q] at hk; exact h.own k hk
  · rw [q] at hk; cases hk; exact hs
theorem IntSt.grow {W1 cur cur' : World} {v : Value} {xs : List Value} (h : IntSt W1 v xs cur) (hb : Below cur.heap.size cur cur') : IntSt W1 v xs cur' :=
  ⟨Row.chg h.row (Chg.of_below hb (fun _ => False)) (fun _ _ q => q), h.own, h.below.trans (hb.mono h.below.size)⟩
theorem lit_int (w : World) (x : Value) : Row (w.alloc (.cells #[x] 3)) 3 (.slice (some ⟨w.heap.size, 0, none⟩) 1 1) [x] :=
  ⟨rfl, .inr ⟨w.heap.size, 1, #[x], rfl, Nat.zero_le _, heap_alloc_new w _, by simp, by simp [maxLen], by simp, by simp⟩⟩
set_option maxHeartbeats 64000000 in
set_option maxRecDepth 100000 in
theorem torn_core (w : World) (hG : Gl w) (A : Option Addr) (c : Nat) (l : List ByteArray) (hc : l.length ≤ c) (hC : Kd.C Kd.string w A l.length l) (hlen : l.length ≤ 140737488351232) (hsz : ∀ x ∈ l, x.size ≤ 140737488351232) (cut : Int) (by_ : UInt8) :
    Calls Tryd.prog 4 #[.slice A l.length c, .int .i64 cut, .int .u8 by_.toNat] w fun e w' => e = .returned (.bool true) ∧ Below w.heap.size w w' := by
  have LV := hd (live_at hG)
  have HG := hd hG
  have HC := hd hC
  have HZ := hd hsz
  have HCC := hd hc
  clear hG hC hsz hc
  go_enter Tryd.func4, Tryd.ntmps4
  go_wp2
  go_loop [7, 8] (fun n i => ∃ k : Nat, k ≤ l.length ∧ k ≤ 51 ∧ tot l k ≤ 281474976710656 ∧ i = .int .i64 k ∧ n = .int .i64 ((tot l k : Nat) : Int)) (fun _ i => 51 - (intOf i).toNat)
  case atStart => exact ⟨0, by omega, by omega, by simp [tot], rfl, by simp [tot]⟩
  case round =>
    obtain ⟨k, hk, h51, ht, rfl, rfl⟩ := hrel
    by_cases h1 : k < l.length
    · obtain ⟨x, hx⟩ : ∃ x, l[k]? = some x := ⟨_, List.getElem?_eq_getElem h1⟩
      obtain ⟨ad, rfl, hcell⟩ := strl_at HC.out (Below.refl _ _) k x hx
      have hsx := HZ.out x (List.mem_of_getElem? hx)
      have HT := hd (tot_succ l k x hx)
      clear hx
      obtain ⟨m, hm⟩ : ∃ m, tot l k = m := ⟨_, rfl⟩
      have HM := hd hm
      rw [hm] at ht ⊢
      by_cases h2 : k ≤ 50
      · by_cases h3 : m ≤ 8000
        · clear hm
          go_wp2
          go_round
          case rel => exact ⟨k + 1, by omega, by omega, by have := HT.out; have := HM.out; omega, by go_num, by rw [show tot l (k + 1) = m + x.size by have := HT.out; have := HM.out; omega]; go_num⟩
          case measure => simp [intOf]; omega
        · clear hm
          go_wp2_with (go_at_call 9; refine (LV.out _ (Below.refl _ _)).mono ?_; rintro e w1 ⟨rfl, hl⟩)
          all_goals
            go_ret
            exact ⟨rfl, hl⟩
      · clear hm
        have h52 : (50 : Int) < l.length := by omega
        go_wp2_with (go_at_call 9; refine (LV.out _ (Below.refl _ _)).mono ?_; rintro e w1 ⟨rfl, hl⟩)
        all_goals
          go_ret
          exact ⟨rfl, hl⟩
    · obtain rfl : k = l.length := by omega
      obtain ⟨m, hm⟩ : ∃ m, tot l l.length = m := ⟨_, rfl⟩
      have HM := hd hm
      rw [hm] at ht ⊢
      clear hm
      by_cases h4 : l.length ≤ 50 ∧ m ≤ 8000 ∧ 0 ≤ cut
      · obtain ⟨h50, h8, hc0⟩ := h4
        have hq8 : Hd (∀ x ∈ l, x.size ≤ 8000) := hd (fun x hx => by
          obtain ⟨j, hj⟩ := List.getElem?_of_mem hx
          have := tot_le l l.length j x hj (List.getElem?_eq_some_iff.1 hj).1
          have := HM.out
          omega)
        have HP := hd (page_call ⟨#[98, 97, 115, 101]⟩ 1 ⟨#[98]⟩ w (by decide) (by decide) (by unfold inI64; omega) (by decide))
        go_wp2_with (fail)
        refine HP.out.mono ?_
        rintro e w1 ⟨rfl, hb1⟩
        have h00 : laidL (bsL ⟨#[98, 97, 115, 101]⟩) 1 (bsL ⟨#[98]⟩) = tapeK l 0 := by simp [tapeK, led, recPages]; rfl
        rw [h00]
        clear h00 HP
        have HB1 := hd hb1
        clear hb1
        have hz0 : (str (tapeK l 0)).size ≤ 1000 := by rw [str_size]; have := tapeK_len l hq8.out h50 0 (by omega); have h0 : tot l 0 = 0 := by simp [tot]
                                                       omega
        go_wp2_with (fail)
        have IS0 : Hd (IntSt w (.slice none 0 0) (endsK l 0) w1) := hd ⟨Row.nil _ _, fun k hk => by simp [Value.ownBlock] at hk, HB1.out⟩
        go_loopw [9, 11, 12] (fun vs ve i wr => ∃ k : Nat, k ≤ l.length ∧ vs = .string (str (tapeK l k)) ∧ i = .int .i64 k ∧ Hd (IntSt w ve (endsK l k) wr)) (fun _ _ i _ => l.length - (RowKit.intOf i).toNat)
        case atStart => exact ⟨0, by omega, rfl, rfl, IS0⟩
        case round =>
          obtain ⟨k, hk, rfl, rfl, HI⟩ := hrel
          clear IS0
          by_cases hlt : k < l.length
          · obtain ⟨x, hx⟩ : ∃ x, l[k]? = some x := ⟨_, List.getElem?_eq_getElem hlt⟩
            obtain ⟨ad, rfl, hcell⟩ := strl_at HC.out HI.out.below k x hx
            have HX := hd hx
            clear hx
            have hx8 : x.size ≤ 8000 := hq8.out x (List.mem_of_getElem? HX.out)
            have HPk := hd (page_call ⟨#[114, 101, 99]⟩ ((k : Int) + 1) x wr (by decide) (by omega) (by unfold inI64; omega) (by omega))
            have hcat : str (tapeK l k) ++ str (laidL (bsL ⟨#[114, 101, 99]⟩) ((k : Int) + 1) (bsL x)) = str (tapeK l (k + 1)) := by
              rw [show ∀ l m : List UInt8, str l ++ str m = str (l ++ m) from fun l m => ByteArray.mk_append_mk l m, tapeK_succ l k x HX.out]
              rfl
            have hz1 : (str (tapeK l k)).size ≤ 20000 := by rw [str_size]; have := tapeK_len l hq8.out h50 k (by omega); have := tot_mono l k l.length (by omega); have := HM.out; omega
            have hz3 : (str (tapeK l (k + 1))).size ≤ 20000 := by rw [str_size]; have := tapeK_len l hq8.out h50 (k + 1) (by omega); have := tot_mono l (k + 1) l.length (by omega); have := HM.out; omega
            have hz2 : (str (tapeK l k)).size + (str (laidL (bsL ⟨#[114, 101, 99]⟩) ((k : Int) + 1) (bsL x))).size = (str (tapeK l (k + 1))).size := by rw [← hcat, ByteArray.size_append]
            go_wp2_with (fail)
            refine HPk.out.mono ?_
            rintro e w2 ⟨rfl, hb2⟩
            have HI2 := hd (HI.out.grow hb2)
            clear hb2 HPk
            obtain ⟨pg, hpg⟩ : ∃ pg, str (laidL (bsL ⟨#[114, 101, 99]⟩) ((k : Int) + 1) (bsL x)) = pg := ⟨_, rfl⟩
            rw [hpg] at hcat hz2 ⊢
            clear hpg
            have hk50 : k ≤ 50 := by omega
            go_wp2_with (at_builtin; refine wpList_step fun Kc hKc => ?_; refine step_append_row rfl (.tmp 72) (.tmp 75) 44 3 (.int .i64 0) 8 rfl Tryd.underlying44 int_info rfl _ _ (endsK l k) [.int .i64 ((str (tapeK l (k + 1))).size : Int)] rfl rfl (HI2.out.row.alloc _) (lit_int _ _) (by simp [Value.oneCell']) (by rw [endsK_length]; simp; omega) (by rw [endsK_length]; simp; omega) ?_; intro v3 w3 hr3 hg3 hb3; refine hKc _ _ ?_; have HI3 := hd (IntSt.step (HI2.out.grow ((Below.refl _ _).alloc (Nat.le_refl _) _)) hr3 hg3 hb3); clear hr3 hg3 hb3)
            rw [str_size, ← endsK_succ] at HI3
            exact ⟨⟨k + 1, by omega, rfl, by go_num, HI3⟩, by simp [RowKit.intOf]; omega⟩
          · obtain rfl : k = l.length := by omega
            obtain ⟨N, rfl⟩ : ∃ N : Nat, cut = (N : Int) := ⟨cut.toNat, by omega⟩
            have zS : (str (tapeK l l.length)).size = (tapeK l l.length).length := str_size _
            have z0 : (str (tapeK l 0)).size = (tapeK l 0).length := str_size _
            by_cases hcut : (tapeK l 0).length ≤ N ∧ N < (tapeK l l.length).length
            · obtain ⟨hc1, hc2⟩ := hcut
              have hpos : 0 < l.length := by
                apply Classical.byContradiction
                intro q
                rw [show l.length = 0 by omega] at hc2
                omega
              have q1 : ¬ (N : Int) < ((str (tapeK l 0)).size : Int) := by omega
              have q2 : ¬ ((str (tapeK l l.length)).size : Int) ≤ (N : Int) := by omega
              rcases HI.out.row.nil_or with ⟨_, hnil⟩ | ⟨g, cap, rfl, hcap1, hcap2, hcells, _⟩
              · have := endsK_length l l.length
                rw [hnil] at this
                simp only [List.length_nil] at this
                omega
              · rw [endsK_length] at hcap1 HI ⊢
                have HCE := hd (fun (k : Nat) (hk : k < l.length) => show wr.cell? ⟨g, k, none⟩ = some (.int .i64 ((tapeK l (k + 1)).length : Int)) from hcells k _ (by simp [endsK, hk]))
                clear hcells
                have HBr := hd HI.out.below
                generalize wr = wq at *
                go_wp2_with (fail)
                go_loopw [13] (fun i wr' => ∃ k : Nat, k ≤ l.length ∧ i = .int .i64 k ∧ Hd (∀ j, j < k → (tapeK l (j + 1)).length ≤ N) ∧ Hd (Below wq.heap.size wq wr')) (fun i _ => l.length - (RowKit.intOf i).toNat)
                case atStart => exact ⟨0, by omega, rfl, hd (fun j hj => by omega), hd (Below.refl _ _)⟩
                case round =>
                  obtain ⟨k, hk, rfl, HJ, HW⟩ := hrel
                  have hk2 : k < l.length := by
                    rcases Nat.lt_or_ge k l.length with q | q
                    · exact q
                    · have := HJ.out (l.length - 1) (by omega)
                      rw [show l.length - 1 + 1 = l.length by omega] at this
                      omega
                  have hce := HCE.out k hk2
                  have hce2 := (Below.cell HW.out (World.block_lt_of_cell? wq _ hce)).trans hce
                  clear hce
                  by_cases hle : (tapeK l (k + 1)).length ≤ N
                  · have hle2 : ((tapeK l (k + 1)).length : Int) ≤ (N : Int) := by omega
                    go_wp2_with (fail)
                    exact ⟨⟨k + 1, by omega, by go_num, hd (fun j hj => by
                      rcases Nat.lt_succ_iff_lt_or_eq.1 hj with q | q
                      · exact HJ.out j q
                      · rw [q]; exact hle), HW⟩, by simp [RowKit.intOf]; omega⟩
                  · have hle2 : ¬ ((tapeK l (k + 1)).length : Int) ≤ (N : Int) := by omega
                    obtain ⟨x, hx⟩ : ∃ x, l[k]? = some x := ⟨_, List.getElem?_eq_getElem hk2⟩
                    have hlo : (tapeK l k).length ≤ N := by
                      rcases Nat.eq_zero_or_pos k with q | q
                      · rw [q]; exact hc1
                      · have := HJ.out (k - 1) (by omega)
                        rw [show k - 1 + 1 = k by omega] at this
                        exact this
                    have hmap : (l.map bsL)[k]? = some (bsL x) := by rw [List.getElem?_map, hx]; rfl
                    have tk : ∀ j, tapeK l j = led 1 [98] ((l.map bsL).take j) := fun j => by unfold tapeK; rw [List.map_take]
                    have hfull : tapeK l l.length = led 1 [98] (l.map bsL) := by rw [tk, List.take_of_length_le (by simp)]
                    have hx8 : x.size ≤ 8000 := hq8.out x (List.mem_of_getElem? hx)
                    obtain ⟨jj, hj1, hj2⟩ := spoil_led (l.map bsL) k (bsL x) hmap (by rw [bs_size]; omega) (by omega) N by_ (by rw [← tk]; exact hlo) (by rw [← tk]; omega)
                    rw [← hfull] at hj1
                    have hSl := tapeK_len l hq8.out h50 l.length (by omega)
                    have hTl := spoil_len (tapeK l l.length) N by_
                    obtain ⟨S, hSd⟩ : ∃ S, str (tapeK l l.length) = S := ⟨_, rfl⟩
                    have hSb : S.data.toList = tapeK l l.length := by rw [← hSd]; exact bs_of _
                    rw [hSd] at zS
                    obtain ⟨T, hT⟩ : ∃ T, spoil (tapeK l l.length) N by_ = T := ⟨_, rfl⟩
                    rw [hT] at hj1 hTl
                    have hT5 : T.length ≤ 100000 := by have := HM.out; omega
                    obtain ⟨s1, s2, hw1, hy1, hO2, hd2, hl2, p0, p0', p1', p1, hr2, hu2⟩ := spoil_reel T hT5
                    have HAf := hd (spoil_after s2 (l.map bsL) k jj hO2 hd2 hl2 p0 p0' p1' (p1.trans hj1) hj2 (by simp; omega) (by simp; omega) (fun q hq => by
                      obtain ⟨y, hy, rfl⟩ := List.mem_map.1 hq
                      have := hq8.out y hy
                      rw [bs_size]; omega))
                    rw [hSd]
                    have HWr := hd (HBr.out.trans (HW.out.mono HBr.out.size))
                    have HX := hd hx
                    have HTd := hd hT
                    have HS1 := hd (And.intro hw1 hy1)
                    have HS2 := hd (And.intro hr2 (And.intro hu2 hTl))
                    have kc := fun W : World => Lib.run_convert_string_bytes (P := Tryd.prog) W 9 45 5 S Tryd.underlying9 Tryd.underlying45 Tryd.underlying5
                    obtain ⟨o, hoN, hoT⟩ := Tells.new wr 5 S _ hSb
                    have HoN := hd hoN
                    have HoT := hd hoT
                    have HBW : Hd (Below wr.heap.size wr (Lib.bytesWorld wr 5 S)) := hd ⟨rfl, rfl, rfl, by rw [Lib.bytesWorld_size]; omega, fun i hi => Lib.bytesWorld_at_old wr 5 S i hi⟩
                    have HHi := hd (And.intro hj1 hj2)
                    have hNS : N < S.size := by omega
                    have hSmax : S.size ≤ 100000 := by have := HM.out; omega
                    have HzS := hd zS
                    have HSb := hd hSb
                    clear zS hSb hfull z0
                    clear hoN hoT hx hmap tk hT hw1 hy1 hO2 hd2 hl2 p0 p0' p1' p1 hr2 hu2 hj1 hj2 hTl hT5 hSl HJ hle hlo hc1 hc2 q1 q2 hSd
                    by_cases hb0 : by_ = 0
                    · have hb1 : by_.toNat = 0 := by rw [hb0]; rfl
                      have HBY := hd hb0
                      rw [hb1]
                      clear hb0 hb1
                      have hcap := grownCap_ge wr S.size 0 5
                      have hNc : N ≤ grownCap wr S.size 0 5 := by omega
                      go_wp2_with (fail)
                      have FT : Hd (Tells o T) := hd (by rw [← HTd.out, show spoil (tapeK l l.length) N by_ = (tapeK l l.length).take N from if_pos HBY.out]; exact HoT.out.take N)
                      have FO := HoN
                      have FL : Hd (wr.heap.size < (Lib.bytesWorld wr 5 S).heap.size) := hd (by rw [Lib.bytesWorld_size]; omega)
                      have FB : Hd (Below w.heap.size w (Lib.bytesWorld wr 5 S)) := hd (HWr.out.trans (HBW.out.mono HWr.out.size))
                      have Fn : Hd (N = T.length) := hd (by rw [← HTd.out, show spoil (tapeK l l.length) N by_ = (tapeK l l.length).take N from if_pos HBY.out, List.length_take]; have := HzS.out; omega)
                      refine (own_new 4194304 w _ FB.out (by decide) (by decide)).mono ?_
                      rintro e w5 ⟨b, fp1, rfl, hm, hbn⟩
                      have HM1 := hd hm
                      have ks : ∀ cap, (convert 45 9 (.slice (some ⟨wr.heap.size, 0, none⟩) N cap)).run Tryd.prog w5 = .ok (.string (str T)) w5 := fun cap => FT.out.string ((hbn.block _ FL.out).trans FO.out) _ _ Fn.out
                      clear hm hbn
                      go_wp2_with (go_at_call 11; refine (num4_any _ _).mono ?_; rintro e w' ⟨rfl, rfl⟩)
                      refine (own_write HM1.out 1 (str T) s1 0 (by rw [bs_of]; exact HS1.out.1) (by rw [str_size]; have := HS2.out.2.2; have := HzS.out; omega)).mono ?_
                      rintro e w6 ⟨rfl, fp2, hm⟩
                      have HM2 := hd hm
                      clear hm HM1
                      go_wp2_with (go_at_call 11; refine (num4_any _ _).mono ?_; rintro e w' ⟨rfl, rfl⟩)
                      refine (own_sync HM2.out 1 s2 0 HS1.out.2).mono ?_
                      rintro e w7 ⟨rfl, fp3, hm⟩
                      have HM3 := hd hm
                      clear hm HM2 ks
                      go_wp2_with (go_at_call 11; refine (num4_any _ _).mono ?_; rintro e w' ⟨rfl, rfl⟩)
                      obtain ⟨s3, L3, o3, c3, f3, p3, e3, t3, l3, m3, u3⟩ := HAf.out.open_
                      refine (own_open HG.out HM3.out s3 L3 _ _ _ _ o3 f3 p3).mono ?_
                      rintro e w8 ⟨fp4, lb, v, B, rfl, hm, hl, _, _, hv, _⟩
                      have hlist : ((l.map bsL).take k).map str = l.take k := by rw [← List.map_take, map_back]
                      rw [hlist] at hv
                      obtain ⟨A8, c8, rfl, hc8, hC8⟩ := Kd.R_reads hv
                      have hlen8 : (l.take k).length = k := by simp; omega
                      have hCl := Kd.C_take (Kd.C_below HC.out hm.below) (m := k) (by omega)
                      have HS := hd (same_call (l0 := l.take k) (l1 := l.take k) (v0 := .slice A8 k c8) (v1 := .slice A k c) (c0 := c8) (c1 := c) ⟨by rw [hlen8], hc8, hC8⟩ ⟨by rw [hlen8], by rw [hlen8]; have := HCC.out; omega, hCl⟩ (by omega))
                      rw [hlen8]
                      have hrec : L3.recs = k := by rw [c3.n]; simp; omega
                      have HLD := hd (fun n => (hl.drewN n).led (hm.drewN n))
                      have HAD : Hd (∀ n, Calls Tryd.prog 14 #[.pointer (some ⟨lb, 0, none⟩), .string ⟨#[122]⟩] (w8.drewN n) fun r w' => r = .returned (.int .i64 0) ∧ Below w.heap.size w w') := by
                        refine hd fun n => ?_
                        rcases c3.add [122] (by decide) (by rw [free_eq, m3, HS2.out.1]; have := HS2.out.2.1; have := HS2.out.2.2; have := HzS.out; simp only [List.length_cons, List.length_nil]; omega) (by simp; omega) with ⟨s', L', ha, _⟩ | ⟨q, _⟩
                        · refine (own_add HG.out (hm.drewN n) (hl.drewN n) c3.lok ⟨#[122]⟩ (by decide) s' L' 0 ha).mono ?_
                          rintro r w' ⟨rfl, fp5, hm5, _⟩
                          exact ⟨rfl, hm5.below⟩
                        · exact absurd l3 q
                      have hcc : k ≤ c := by have := HCC.out; omega
                      have ex : (str ([98] : List UInt8)).toList = [98] := by kernel_rfl
                      clear o3 c3 f3 p3 e3 t3 l3 m3 u3 hm hl hv hlist hc8 hC8 hCl hlen8 HM3
                      go_wp2_with (first | (go_at_call 11; refine (num4_any _ _).mono ?_; rintro e w' ⟨rfl, rfl⟩) | (go_at_call 18; refine HS.out.mono ?_; rintro e w9 ⟨rfl, n7, rfl⟩) | (go_at_call 22; refine (Tryd.ledRecords lb b s3 L3 fp4 fp4 _ _ (HLD.out n7)).mono ?_; rintro e w' ⟨rfl, rfl⟩) | (go_at_call 14; refine (HAD.out n7).mono ?_; rintro e w10 ⟨rfl, hb10⟩; have HB10 := hd hb10; clear hb10) | (go_at_call 9; refine (LV.out _ HB10.out).mono ?_; rintro e w11 ⟨rfl, hlv⟩))
                      go_ret
                      exact ⟨rfl, hlv⟩
                    · have hb1 : by_.toNat ≠ 0 := fun q => hb0 (UInt8.toNat_inj.1 q)
                      have hb2 : (((by_.toNat : Nat) : Int) == 0) = false := beq_eq_false_iff_ne.2 (by omega)
                      have HBY := hd hb0
                      clear hb0 hb1
                      have ck := Lib.bytesWorld_cell wr 5 S N hNS
                      have cf := bytes_frozen wr 5 S N hNS
                      obtain ⟨o2, ho2, hT2⟩ := HoT.out.set HoN.out N (S.data.toList.getD N 0 ^^^ by_)
                      have HoN2 := hd ho2
                      have HoT2 := hd hT2
                      clear ho2 hT2
                      obtain ⟨xb, hxb⟩ : ∃ xb, S.data.toList.getD N 0 = xb := ⟨_, rfl⟩
                      have Hxb := hd hxb
                      rw [hxb] at ck HoN2 HoT2
                      clear hxb
                      have hxor := xor_byte4 xb by_
                      go_wp2_with (fail)
                      rw [UInt8.toNat_xor] at HoN2
                      have hT3 : spoil (tapeK l l.length) N by_ = (tapeK l l.length).set N (xb ^^^ by_) := by
                        unfold spoil
                        rw [if_neg HBY.out, ← HSb.out, Hxb.out]
                      have FT : Hd (Tells o2 T) := hd (by rw [← HTd.out, hT3]; exact HoT2.out)
                      have FO := HoN2
                      have FL : Hd (wr.heap.size < ((Lib.bytesWorld wr 5 S).setCell ⟨wr.heap.size, N, none⟩ (.int .u8 ((xb.toNat ^^^ by_.toNat : Nat) : Int))).heap.size) := hd (by simp [Lib.bytesWorld_size])
                      have FB : Hd (Below w.heap.size w ((Lib.bytesWorld wr 5 S).setCell ⟨wr.heap.size, N, none⟩ (.int .u8 ((xb.toNat ^^^ by_.toNat : Nat) : Int)))) := hd ((HWr.out.trans (HBW.out.mono HWr.out.size)).setCell (p := ⟨wr.heap.size, N, none⟩) HWr.out.size _)
                      have Fn : Hd (S.size = T.length) := hd (by rw [← HTd.out, hT3, List.length_set]; exact HzS.out)
                      clear hT3 hxor ck cf
                      refine (own_new 4194304 w _ FB.out (by decide) (by decide)).mono ?_
                      rintro e w5 ⟨b, fp1, rfl, hm, hbn⟩
                      have HM1 := hd hm
                      have ks : ∀ cap, (convert 45 9 (.slice (some ⟨wr.heap.size, 0, none⟩) S.size cap)).run Tryd.prog w5 = .ok (.string (str T)) w5 := fun cap => FT.out.string ((hbn.block _ FL.out).trans FO.out) _ _ Fn.out
                      clear hm hbn
                      go_wp2_with (go_at_call 11; refine (num4_any _ _).mono ?_; rintro e w' ⟨rfl, rfl⟩)
                      refine (own_write HM1.out 1 (str T) s1 0 (by rw [bs_of]; exact HS1.out.1) (by rw [str_size]; have := HS2.out.2.2; have := HzS.out; omega)).mono ?_
                      rintro e w6 ⟨rfl, fp2, hm⟩
                      have HM2 := hd hm
                      clear hm HM1
                      go_wp2_with (go_at_call 11; refine (num4_any _ _).mono ?_; rintro e w' ⟨rfl, rfl⟩)
                      refine (own_sync HM2.out 1 s2 0 HS1.out.2).mono ?_
                      rintro e w7 ⟨rfl, fp3, hm⟩
                      have HM3 := hd hm
                      clear hm HM2 ks
                      go_wp2_with (go_at_call 11; refine (num4_any _ _).mono ?_; rintro e w' ⟨rfl, rfl⟩)
                      obtain ⟨s3, L3, o3, c3, f3, p3, e3, t3, l3, m3, u3⟩ := HAf.out.open_
                      refine (own_open HG.out HM3.out s3 L3 _ _ _ _ o3 f3 p3).mono ?_
                      rintro e w8 ⟨fp4, lb, v, B, rfl, hm, hl, _, _, hv, _⟩
                      have hlist : ((l.map bsL).take k).map str = l.take k := by rw [← List.map_take, map_back]
                      rw [hlist] at hv
                      obtain ⟨A8, c8, rfl, hc8, hC8⟩ := Kd.R_reads hv
                      have hlen8 : (l.take k).length = k := by simp; omega
                      have hCl := Kd.C_take (Kd.C_below HC.out hm.below) (m := k) (by omega)
                      have HS := hd (same_call (l0 := l.take k) (l1 := l.take k) (v0 := .slice A8 k c8) (v1 := .slice A k c) (c0 := c8) (c1 := c) ⟨by rw [hlen8], hc8, hC8⟩ ⟨by rw [hlen8], by rw [hlen8]; have := HCC.out; omega, hCl⟩ (by omega))
                      rw [hlen8]
                      have hrec : L3.recs = k := by rw [c3.n]; simp; omega
                      have HLD := hd (fun n => (hl.drewN n).led (hm.drewN n))
                      have HAD : Hd (∀ n, Calls Tryd.prog 14 #[.pointer (some ⟨lb, 0, none⟩), .string ⟨#[122]⟩] (w8.drewN n) fun r w' => r = .returned (.int .i64 0) ∧ Below w.heap.size w w') := by
                        refine hd fun n => ?_
                        rcases c3.add [122] (by decide) (by rw [free_eq, m3, HS2.out.1]; have := HS2.out.2.1; have := HS2.out.2.2; have := HzS.out; simp only [List.length_cons, List.length_nil]; omega) (by simp; omega) with ⟨s', L', ha, _⟩ | ⟨q, _⟩
                        · refine (own_add HG.out (hm.drewN n) (hl.drewN n) c3.lok ⟨#[122]⟩ (by decide) s' L' 0 ha).mono ?_
                          rintro r w' ⟨rfl, fp5, hm5, _⟩
                          exact ⟨rfl, hm5.below⟩
                        · exact absurd l3 q
                      have hcc : k ≤ c := by have := HCC.out; omega
                      have ex : (str ([98] : List UInt8)).toList = [98] := by kernel_rfl
                      clear o3 c3 f3 p3 e3 t3 l3 m3 u3 hm hl hv hlist hc8 hC8 hCl hlen8 HM3
                      go_wp2_with (first | (go_at_call 11; refine (num4_any _ _).mono ?_; rintro e w' ⟨rfl, rfl⟩) | (go_at_call 18; refine HS.out.mono ?_; rintro e w9 ⟨rfl, n7, rfl⟩) | (go_at_call 22; refine (Tryd.ledRecords lb b s3 L3 fp4 fp4 _ _ (HLD.out n7)).mono ?_; rintro e w' ⟨rfl, rfl⟩) | (go_at_call 14; refine (HAD.out n7).mono ?_; rintro e w10 ⟨rfl, hb10⟩; have HB10 := hd hb10; clear hb10) | (go_at_call 9; refine (LV.out _ HB10.out).mono ?_; rintro e w11 ⟨rfl, hlv⟩))
                      go_ret
                      exact ⟨rfl, hlv⟩
            · have hcc : ((N : Int) < ((str (tapeK l 0)).size : Int)) ∨ (((str (tapeK l l.length)).size : Int) ≤ (N : Int)) := by omega
              have HB := hd HI.out.below
              clear HI hcut
              rcases hcc with q | q
              all_goals
                go_wp2_with (go_at_call 9; refine (LV.out _ HB.out).mono ?_; rintro e w1 ⟨rfl, hl⟩)
                all_goals
                  go_ret
                  exact ⟨rfl, hl⟩
      · have LVX : (50 : Int) < l.length ∨ (8000 : Int) < m ∨ cut < 0 := by omega
        clear h4
        rcases LVX with h5 | h5 | h5
        all_goals
          go_wp2_with (go_at_call 9; refine (LV.out _ (Below.refl _ _)).mono ?_; rintro e w1 ⟨rfl, hl⟩)
          all_goals
            go_ret
            exact ⟨rfl, hl⟩
/-- As the row wants it. -/
theorem torn_walk {H : Type} {enc : TypeId × Value → H} (W : World) (hG : Gl W) (v : Value) (ho : ∃ A n c, v = .slice A n c) {d : DataW H} {p : List MemPlace} (h : DataW.Trod enc Tryd.prog W 0 (fun _ => true) true 31 v d p) (hl : Light Tryd.prog 31 d)
    (a1 : Int) (_ : (Lit.int .i64 a1).wf = true) (a2 : Int) (w2 : (Lit.int .u8 a2).wf = true) :
    Calls Tryd.prog 4 #[v, .int .i64 a1, .int .u8 a2] W fun e w' => e = .returned (.bool true) ∧ Below W.heap.size W w' := by
  obtain ⟨A, l, c, rfl, hc, hC, hn, hz⟩ := open_strs ho h hl
  obtain ⟨y, rfl⟩ := u8_of' a2 w2
  exact torn_core W hG A c l hc hC hn hz a1 y
end Go.Proofs.YtjmejamgbinigaaDoor
