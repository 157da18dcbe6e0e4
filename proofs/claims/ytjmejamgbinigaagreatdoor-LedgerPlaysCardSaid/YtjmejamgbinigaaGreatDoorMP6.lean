/-
  Lemmas, joined of the texts Acts4 Small4 PW3.
-/
import Derived.Test.YtjmejamgbinigaaGreatDoorMB17
import Derived.Test.YtjmejamgbinigaaGreatDoorMP5
import Derived.Test.YtjmejamgbinigaaGreatDoorMB16
import Derived.Deep.RegionHeld
import Derived.Deep.QuietTactic
import Derived.BigQuiet
namespace Go.Proofs.YtjmejamgbinigaaGreatDoor
set_option linter.unusedVariables false
set_option linter.unusedSimpArgs false
open Go.RowKit

structure Act where
  kind : Int
  s : ByteArray
  n : Int
  k0 : Int
  k1 : Int
  turn : UInt8

namespace Act
def cells (a : Act) : List Value := [.int .i64 a.kind, .string a.s, .int .i64 a.n, .int .i64 a.k0, .int .i64 a.k1, .int .u8 a.turn.toNat]
structure Ok (a : Act) : Prop where
  n0 : -9223372036854775808 ≤ a.n
  n1 : a.n ≤ 9223372036854775807
  s : a.s.size ≤ 140737488351232
end Act
instance : Inhabited Act := ⟨⟨0, ⟨#[]⟩, 0, 0, 0, 0⟩⟩

/-- Acts in memory: six cells each. -/
structure ActsAt (w : World) (A : Option Addr) (l : List Act) : Prop where
  ok : ∀ a ∈ l, a.Ok
  addr : l ≠ [] → ∃ b off, A = some ⟨b, off, none⟩
  cell : ∀ (b off i j : Nat) (a : Act) (v : Value), A = some ⟨b, off, none⟩ → l[i]? = some a → a.cells[j]? = some v → w.cell? ⟨b, off + (i * 6 + j), none⟩ = some v

theorem ActsAt.below {w w' : World} {A : Option Addr} {l : List Act} (h : ActsAt w A l) (hb : Below w.heap.size w w') : ActsAt w' A l :=
  ⟨h.ok, h.addr, fun b off i j a v hA hi hj => by
    have := h.cell b off i j a v hA hi hj
    exact (hb.cell (World.block_lt_of_cell? w _ this)).trans this⟩

theorem i64_bd {n : Int} (h : (Lit.int .i64 n).wf = true) : -9223372036854775808 ≤ n ∧ n ≤ 9223372036854775807 := by
  simpa [Lit.wf, IntKind.min, IntKind.max, IntKind.signed, IntKind.bits] using h
theorem u8_of' (x : Int) (h : (Lit.int .u8 x).wf = true) : ∃ y : UInt8, x = y.toNat := by
  have hb : 0 ≤ x ∧ x ≤ 255 := by simpa [Lit.wf, IntKind.min, IntKind.max, IntKind.signed, IntKind.bits] using h
  refine ⟨UInt8.ofNat x.toNat, ?_⟩
  simp
  omega

section
variable {H : Type} {enc : TypeId × Value → H} {w : World} {spare : Nat → Bool} {held : Bool}

theorem act_leaves : leaves Tryz.prog 4 44 = [.int .i64, .str, .int .i64, .int .i64, .int .i64, .int .u8] := by kernel_rfl
theorem act_flat : flatB Tryz.prog 4 44 = true := by kernel_rfl
theorem act_cells : Tryz.prog.cellsOf 44 = 6 := by kernel_rfl

theorem act_of {cs : List Value} (h : LeafAll enc Tryz.prog w 0 spare held [.int .i64, .str, .int .i64, .int .i64, .int .i64, .int .u8] cs) : ∃ a : Act, cs = a.cells ∧ a.Ok := by
  rcases cs with _ | ⟨c0, _ | ⟨c1, _ | ⟨c2, _ | ⟨c3, _ | ⟨c4, _ | ⟨c5, _ | ⟨c6, r⟩⟩⟩⟩⟩⟩⟩
  all_goals try (have := h.length; simp at this; done)
  obtain ⟨⟨x0, rfl, _⟩, ⟨x2, rfl, w2⟩, ⟨x3, rfl, w3⟩, ⟨x4, rfl, _⟩, ⟨x5, rfl, _⟩, ⟨x6, rfl, w6⟩, _⟩ := h
  obtain ⟨y, rfl⟩ := u8_of' x6 w6
  have b := i64_bd w3
  exact ⟨⟨x0, x2, x3, x4, x5, y⟩, rfl, ⟨b.1, b.2, w2⟩⟩

set_option maxRecDepth 100000 in
theorem open_acts {v : Value} {d : DataW H} {p : List MemPlace} (hv0 : ∃ A n c, v = .slice A n c) (h : DataW.Trod enc Tryz.prog w 0 spare held 22 v d p) (hl : Light Tryz.prog 22 d) :
    ∃ A l c, v = .slice A l.length c ∧ l.length ≤ 140737488351232 ∧ ActsAt w A l := by
  rcases open_rows 4 6 Tryz.underlying22 act_cells act_flat hv0 h hl with rfl | ⟨a, len, cap, C, rfl, _, _, hlen, hC⟩
  · exact ⟨none, [], 0, rfl, by simp, ⟨by simp, fun h => absurd rfl h, fun b off i j a v hA => by cases hA⟩⟩
  · rw [act_leaves] at hC
    obtain ⟨F, hF⟩ := Deep.choose_lt (α := Act) (n := len) (p := fun i x => C i = x.cells ∧ x.Ok) (fun i hi => act_of (hC i hi).1)
    have hb : Tryz.prog.bytesOf 44 = 56 := by kernel_rfl
    rw [hb] at hlen
    refine ⟨some a, (List.range len).map F, cap, by simp, by simp; omega, ⟨?_, ?_, ?_⟩⟩
    · intro x hx
      obtain ⟨i, hi, rfl⟩ := List.mem_map.1 hx
      exact (hF i (List.mem_range.1 hi)).2
    · intro hne
      have h0 : 0 < len := by
        rcases Nat.eq_zero_or_pos len with h0 | h0
        · subst h0; exact absurd rfl hne
        · exact h0
      have := (hC 0 h0).2.2 0 (by omega)
      rw [(hF 0 h0).1] at this
      have ha := plain_addr (a := a.add (0 * 6 + 0)) (this.trans rfl)
      have h00 : a.add (0 * 6 + 0) = a := by unfold Addr.add; simp
      rw [h00] at ha
      exact ⟨a.block, a.off, by rw [← ha]⟩
    · intro b off i j x v hA hi hj
      injection hA with hA
      subst hA
      have hil : i < len := by
        have := (List.getElem?_eq_some_iff.1 hi).1
        simpa using this
      have hx : F i = x := by simpa [hil] using hi
      have hj7 : j < 6 := by
        have := (List.getElem?_eq_some_iff.1 hj).1
        simpa [Act.cells] using this
      have := (hC i hil).2.2 j hj7
      rw [(hF i hil).1, hx, add_off, hj] at this
      exact this
end
end Go.Proofs.YtjmejamgbinigaaGreatDoor
namespace Go.Proofs.YtjmejamgbinigaaGreatDoor
set_option linter.unusedVariables false
set_option linter.unusedSimpArgs false
open Go.RowKit

def totA (l : List Act) (k : Nat) : Nat := ((l.take k).map (·.s.size)).sum
theorem totA_succ (l : List Act) (k : Nat) (a : Act) (h : l[k]? = some a) : totA l (k + 1) = totA l k + a.s.size := by
  unfold totA
  rw [List.take_add_one, h]
  simp
theorem totA_le (l : List Act) (k j : Nat) (a : Act) (h : l[j]? = some a) (hj : j < k) : a.s.size ≤ totA l k := by
  induction k with
  | zero => omega
  | succ k ih =>
    rcases Nat.lt_or_ge j k with h1 | h1
    · have := ih h1
      cases hk : l[k]? with
      | none =>
        unfold totA at *
        rw [List.take_add_one, hk]
        simpa using this
      | some b => rw [totA_succ l k b hk]; omega
    · obtain rfl : j = k := by omega
      rw [totA_succ l j a h]; omega

def SmallPost (l : List Act) (w : World) (e : Ending) (w' : World) : Prop := ∃ b, e = .returned (.bool b) ∧ (b = true → l.length ≤ 50 ∧ totA l l.length ≤ 8000) ∧ w = w'

set_option maxHeartbeats 800000 in
theorem small_any (A : Option Addr) (l : List Act) (cap : Nat) (w : World) (hA : ActsAt w A l) (hlen : l.length ≤ 140737488351232) :
    Calls Tryz.prog 4 #[.slice A l.length cap] w (SmallPost l w) := by
  have HA := hd hA
  clear hA
  go_enter Tryz.func4, Tryz.ntmps4
  go_wp2
  go_loop [3, 4] (fun n i => ∃ k : Nat, k ≤ l.length ∧ k ≤ 51 ∧ totA l k ≤ 140737488400000 ∧ i = .int .i64 k ∧ n = .int .i64 (totA l k)) (fun _ i => 51 - (intOf i).toNat)
  case atStart => exact ⟨0, by omega, by omega, by simp [totA], rfl, rfl⟩
  case round =>
    obtain ⟨k, hk, h61, ht, rfl, rfl⟩ := hrel
    by_cases hlt : k < l.length ∧ k ≤ 50 ∧ totA l k ≤ 8000
    · obtain ⟨h1, h2, h3⟩ := hlt
      obtain ⟨b, off, rfl⟩ := HA.out.addr (by intro h; rw [h] at h1; simp at h1)
      obtain ⟨a, ha⟩ : ∃ a, l[k]? = some a := ⟨_, List.getElem?_eq_getElem h1⟩
      have hc : w.cell? ⟨b, off + k * 6 + 1, none⟩ = some (.string a.s) := by
        have := HA.out.cell b off k 1 a _ rfl ha rfl
        rwa [← Nat.add_assoc] at this
      have hs := (HA.out.ok a (List.mem_of_getElem? ha)).s
      have HT := hd (totA_succ l k a ha)
      clear ha
      generalize totA l k = m at *
      go_wp2
      go_round
      case rel => exact ⟨k + 1, by omega, by omega, by rw [HT.out]; omega, by go_num, by rw [HT.out]; go_num⟩
      case measure => simp [intOf]; omega
    · by_cases h1 : k < l.length
      · by_cases h2 : k ≤ 50
        · have h3 : ¬ totA l k ≤ 8000 := fun h => hlt ⟨h1, h2, h⟩
          clear hlt
          generalize totA l k = m at *
          go_wp2
          all_goals
            go_ret
            exact ⟨_, rfl, fun h => by simp at h <;> omega, rfl⟩
        · clear hlt
          generalize totA l k = m at *
          go_wp2
          all_goals
            go_ret
            exact ⟨_, rfl, fun h => by simp at h <;> omega, rfl⟩
      · obtain rfl : k = l.length := by omega
        have HT := hd (fun j a (hj : l[j]? = some a) => totA_le l l.length j a hj (List.getElem?_eq_some_iff.1 hj).1)
        clear hlt
        obtain ⟨m, hm⟩ : ∃ m, totA l l.length = m := ⟨_, rfl⟩
        have HM := hd hm
        rw [hm] at ht ⊢
        clear hm HT
        by_cases h6 : l.length ≤ 50
        · by_cases h7 : m ≤ 8000
          · go_wp2
            go_ret
            exact ⟨_, rfl, fun _ => ⟨h6, by have := HM.out; omega⟩, rfl⟩
          · go_wp2
            go_ret
            exact ⟨_, rfl, fun h => by simp at h <;> omega, rfl⟩
        · go_wp2
          all_goals
            go_ret
            exact ⟨_, rfl, fun h => by simp at h <;> omega, rfl⟩
end Go.Proofs.YtjmejamgbinigaaGreatDoor
namespace Go.Proofs.YtjmejamgbinigaaGreatDoor
set_option linter.unusedVariables false
set_option linter.unusedSimpArgs false
open Go.RowKit Go.Proofs.YtjmejamgbinigaaGreatDoorW.PrintWords Go.Proofs.YtjmejamgbinigaaGreatDoorW.PrintLast
theorem reels_new {w0 w : World} {rb : Nat} {fp : List Nat} {room : Int} (h : MineL w0 w rb (RS.new room) fp) :
    Calls Tryz.prog 8 #[.int .i64 room] w fun r w' => ∃ b gs gf, r = .returned (.pointer (some ⟨b, 0, none⟩)) ∧ Reels w0 w' rb b gs gf (RS.new room) (RS.new room).toF fp := by
  refine (rnew_any room w).mono ?_
  rintro r w' ⟨b, gs, gf, rfl, hr, hC, ho⟩
  have hs := h.below.size
  have hB := hC.below (Nat.le_refl _) (fun _ q => q.elim)
  exact ⟨b, gs, gf, rfl, h.below_ hB, hr, fun k hk => ⟨by have := ho k hk; omega, fun q => by have := ho k hk; have := h.lt k q; omega⟩⟩
/-- Both ledgers: none, or one on each side. -/
def Pair (w0 w : World) (rb b gs gf : Nat) (fp : List Nat) (va vb : Value) (k : Nat) : Prop :=
  (va = .pointer none ∧ vb = .pointer none) ∨ ∃ lb qb L, va = .pointer (some ⟨lb, 0, none⟩) ∧ vb = .pointer (some ⟨qb, 0, none⟩) ∧ Leds w0 w rb b gs gf fp lb qb L L ∧ LOk L k
theorem leds_cells {w0 w : World} {rb b gs gf : Nat} {fp : List Nat} {lb qb : Nat} {L M : LS} (h : Leds w0 w rb b gs gf fp lb qb L M) :
    w.cell? ⟨qb, 2, none⟩ = some (.int .i64 M.epoch) ∧ w.cell? ⟨qb, 3, none⟩ = some (.int .i64 M.recs) ∧ w.cell? ⟨qb, 4, none⟩ = some (.bool M.broken) := ⟨h.blk.cell 2, h.blk.cell 3, h.blk.cell 4⟩
theorem quiet_of_eq {P : Program} {f : FuncId} {args : Array Value} {w : World} {n : Nat} {v : Value}
    (h : Calls P f args (w.drewN n) fun e w' => e = .returned v ∧ w.drewN n = w') : Calls P f args (w.drewN n) fun e w'' => e = .returned v ∧ ∃ m, w'' = w.drewN m :=
  h.mono fun _ _ ⟨he, hm⟩ => ⟨he, n, hm.symm⟩
theorem same_call_nil (w : World) : Calls Tryz.prog 19 #[.slice none 0 0, .slice none 0 0] w fun e w' => e = .returned (.bool true) ∧ Drawn0 w w' := by
  obtain ⟨A, c, h, g1, g2⟩ := Kd.R_reads (Kd.R_nil Kd.string 9 w 0 (fun _ => True))
  have := same_call (l0 := []) (l1 := []) ⟨h, g1, g2⟩ ⟨h, g1, g2⟩ (by simp)
  exact this
set_option maxHeartbeats 64000000 in
set_option maxRecDepth 100000 in
theorem plays_core (w : World) (hG : Gl w) (room : Int) (A : Option Addr) (c : Nat) (l : List Act) (hA : ActsAt w A l) (hlen : l.length ≤ 140737488351232) :
    Calls Tryz.prog 3 #[.int .i64 room, .slice A l.length c] w fun e w' => e = .returned (.bool true) ∧ Below w.heap.size w w' := by
  have LV := hd (fun w' (hb : Below w.heap.size w w') => live4_any w w' hG hb)
  have HG := hd hG
  have HA := hd hA
  clear hG hA
  go_enter Tryz.func3, Tryz.ntmps3
  go_wp2_with (fail)
  refine (small_any A l c w HA.out hlen).mono ?_
  rintro e w' ⟨bb, rfl, hsm, rfl⟩
  cases bb with
  | false =>
    go_wp2_with (go_at_call 5; refine (LV.out _ (Below.refl _ _)).mono ?_; rintro e w1 ⟨rfl, hl⟩)
    go_ret
    exact ⟨rfl, hl⟩
  | true =>
    have HSM := hd (hsm rfl)
    clear hsm
    by_cases hr0 : room < 0
    · go_wp2_with (go_at_call 5; refine (LV.out _ (Below.refl _ _)).mono ?_; rintro e w1 ⟨rfl, hl⟩)
      go_ret
      exact ⟨rfl, hl⟩
    by_cases hr1 : 100000 < room
    · go_wp2_with (go_at_call 5; refine (LV.out _ (Below.refl _ _)).mono ?_; rintro e w1 ⟨rfl, hl⟩)
      go_ret
      exact ⟨rfl, hl⟩
    go_wp2_with ((go_at_call 7; refine (num4_any _ _).mono ?_; rintro e w' ⟨rfl, rfl⟩))
    refine (own_new room w _ (Below.refl _ _) (by omega) (by omega)).mono ?_
    rintro e w1 ⟨rb, fp1, rfl, hm, _⟩
    have HM1 := hd hm
    clear hm
    go_wp2_with ((go_at_call 7; refine (num4_any _ _).mono ?_; rintro e w' ⟨rfl, rfl⟩))
    refine (reels_new HM1.out).mono ?_
    rintro e w2 ⟨b, gs, gf, rfl, hR2⟩
    have HR2 := hd hR2
    clear hR2 HM1
    have hso := HR2.out.mine.at_.ok
    obtain ⟨s1, hs1⟩ : ∃ s1, RS.new room = s1 := ⟨_, rfl⟩
    rw [hs1] at HR2 hso
    clear hs1
    have HSO := hd hso
    clear hso
    have HI : Hd (Calls Tryz.prog 9 #[.pointer (some ⟨rb, 0, none⟩)] w2 fun e w3 => ∃ va v1 v2 er, e = .returned (.tuple #[va, v1, v2, .int .i64 er]) ∧ Calls Tryz.prog 10 #[.pointer (some ⟨b, 0, none⟩)] w3 fun e w4 => ∃ vb v1 v2, e = .returned (.tuple #[vb, v1, v2, .int .i64 er]) ∧
        ∃ s fp, Reels w w4 rb b gs gf s s.toF fp ∧ Pair w w4 rb b gs gf fp va vb 0) := by
      refine hd ?_
      obtain ⟨s4, er, ho⟩ : ∃ s4 er, openM s1 = (s4, er) := ⟨_, _, rfl⟩
      by_cases her : er = 0
      · subst her
        refine (p_open_ok HG.out HR2.out ho).mono ?_
        rintro e w4 ⟨lb4, v4, rfl, fp4, B4, h4, hl4, hlb4, hv4⟩
        refine ⟨_, _, _, _, rfl, ?_⟩
        refine (q_open_ok h4 HSO.out ho hl4 hlb4 hv4).mono ?_
        rintro e w5 ⟨qb5, v5, rfl, h5, hl5, _, _⟩
        exact ⟨_, _, _, rfl, s4, fp4, h5, .inr ⟨_, _, _, rfl, rfl, hl5, openOf_ok (tape_le HSO.out 0) (tape_le HSO.out 1) 0⟩⟩
      · refine (p_open_err HG.out HR2.out ho her).mono ?_
        rintro e w4 ⟨rfl, fp4, h4⟩
        refine ⟨_, _, _, _, rfl, ?_⟩
        refine (q_open_err h4 HSO.out ho her).mono ?_
        rintro e w5 ⟨rfl, h5⟩
        exact ⟨_, _, _, rfl, s4, fp4, h5, .inl ⟨rfl, rfl⟩⟩
    clear HR2 HSO
    go_wp2_with (fail)
    refine HI.out.mono ?_
    rintro e w3 ⟨va, v1, v2, er, rfl, hI⟩
    have HI2 := hd hI
    clear hI HI
    go_wp2_with (fail)
    refine HI2.out.mono ?_
    rintro e w4 ⟨vb, v3, v4, rfl, s, fp, hR, hP⟩
    have HR := hd hR
    have HP := hd hP
    clear hR hP HI2
    go_upto_region 9 with (fail)
    go_cut [84] (fun v wx => v = .bool false ∧ ∃ n, wx = w4.drewN n)
    case first =>
      rcases HP.out with ⟨rfl, rfl⟩ | ⟨lb, qb, L, rfl, rfl, _⟩
      all_goals
        clear HP
        go_wp2_with (first | (go_at_call 7; refine (num4_any _ _).mono ?_; rintro e w' ⟨rfl, rfl⟩) | (go_at_call 11; refine (same4_any HR.out).mono ?_; rintro e wz ⟨rfl, nz, rfl⟩))
        go_meet
        exact ⟨rfl, nz, rfl⟩
    obtain ⟨rfl, n4, rfl⟩ := hcut
    have HR4 := hd (HR.out.drewN n4)
    have HP4 : Hd (Pair w (w4.drewN n4) rb b gs gf fp va vb 0) := by
      refine hd ?_
      rcases HP.out with ⟨rfl, rfl⟩ | ⟨lb, qb, L, rfl, rfl, hl, hO⟩
      · exact .inl ⟨rfl, rfl⟩
      · exact .inr ⟨lb, qb, L, rfl, rfl, hl.drewN n4, hO⟩
    clear HR HP
    generalize w4.drewN n4 = w5 at *
    go_wp2_with (fail)
    go_loopw [8, 12, 16] (fun va vb i wr => ∃ (k : Nat) (s : RS) (fp : List Nat), k ≤ l.length ∧ i = .int .i64 k ∧ Hd (Reels w wr rb b gs gf s s.toF fp) ∧ Hd (Pair w wr rb b gs gf fp va vb k)) (fun _ _ i _ => l.length - (RowKit.intOf i).toNat)
    case atStart => exact ⟨0, s, fp, by omega, rfl, HR4, HP4⟩
    case round =>
      clear HR4 HP4
      obtain ⟨k, s, fp, hk, rfl, HR, HP⟩ := hrel
      by_cases hlt : k < l.length
      · obtain ⟨p, off, rfl⟩ := HA.out.addr (by intro h; rw [h] at hlt; simp at hlt)
        obtain ⟨a, ha⟩ : ∃ a, l[k]? = some a := ⟨_, List.getElem?_eq_getElem hlt⟩
        have HC := (HA.out.below HR.out.mine.below).cell p off k
        have c0 := HC 0 a _ rfl ha rfl
        have c1 := HC 1 a _ rfl ha rfl
        have c2 := HC 2 a _ rfl ha rfl
        have c3 := HC 3 a _ rfl ha rfl
        have c4 := HC 4 a _ rfl ha rfl
        have c5 := HC 5 a _ rfl ha rfl
        simp only [← Nat.add_assoc, Nat.add_zero] at c0 c1 c2 c3 c4 c5
        have HOk := hd (HA.out.ok a (List.mem_of_getElem? ha))
        have htl := totA_le l l.length k a ha hlt
        have hx8 : a.s.size ≤ 8000 := by have := HSM.out.2; omega
        have hk50 : k ≤ 1000 := by have := HSM.out.1; omega
        clear HC ha htl
        obtain ⟨kd, hkd⟩ : ∃ kd, a.kind = kd := ⟨_, rfl⟩
        have hac : a.cells = [.int .i64 kd, .string a.s, .int .i64 a.n, .int .i64 a.k0, .int .i64 a.k1, .int .u8 a.turn.toNat] := by unfold Act.cells; rw [hkd]
        rw [hkd] at c0
        have hB1 : Below wr.heap.size wr (wr.alloc (.cells #[.int .i64 kd, .string a.s, .int .i64 a.n, .int .i64 a.k0, .int .i64 a.k1, .int .u8 a.turn.toNat] 44)) := (Below.refl _ _).alloc (Nat.le_refl _) _
        have HR1 := hd (HR.out.below_ hB1)
        have HX : Hd (Far (wr.alloc (.cells #[.int .i64 kd, .string a.s, .int .i64 a.n, .int .i64 a.k0, .int .i64 a.k1, .int .u8 a.turn.toNat] 44)) b gs gf fp wr.heap.size [.int .i64 kd, .string a.s, .int .i64 a.n, .int .i64 a.k0, .int .i64 a.k1, .int .u8 a.turn.toNat] 44) :=
          hd ⟨Blk.new wr [.int .i64 kd, .string a.s, .int .i64 a.n, .int .i64 a.k0, .int .i64 a.k1, .int .u8 a.turn.toNat] 44, fun q => Nat.lt_irrefl _ (HR.out.mine.lt _ q), fun q => Nat.lt_irrefl _ (HR.out.raw.lt' _ q)⟩
        have HNE : Hd (∀ lb qb L, Leds w wr rb b gs gf fp lb qb L L → wr.heap.size ≠ lb ∧ wr.heap.size ≠ qb) := hd fun lb qb L hl => ⟨fun q => by have := hl.lg.blk.lt; omega, fun q => by have := hl.blk.lt; omega⟩
        have HB1 := hd hB1
        clear hkd hac hB1
        by_cases hcont : u8 = .pointer none ∧ (kd = 0 ∨ kd = 1)
        · obtain ⟨hva, hkk⟩ := hcont
          rcases HP.out with ⟨rfl, rfl⟩ | ⟨lb, qb, L, rfl, rfl, hl, hO⟩
          · clear HP hva
            rcases hkk with rfl | rfl
            all_goals
              go_wp2_with (fail)
              exact ⟨⟨k + 1, s, fp, by omega, by go_num, hd HR1.out, hd (.inl ⟨rfl, rfl⟩)⟩, by simp [RowKit.intOf]; omega⟩
          · cases hva
        · have HCT := hd hcont
          clear hcont
          go_upto_block 2 with (fail)
          generalize wr.alloc (.cells #[.int .i64 kd, .string a.s, .int .i64 a.n, .int .i64 a.k0, .int .i64 a.k1, .int .u8 a.turn.toNat] 44) = W1 at *
          go_cut [8, 12, 18, 19] (fun va' vb' vp vq wx => ∃ (s' : RS) (fp' : List Nat) (er : Int), vp = .int .i64 er ∧ vq = .int .i64 er ∧ Hd (Reels w wx rb b gs gf s' s'.toF fp') ∧ Hd (Pair w wx rb b gs gf fp' va' vb' (k + 1)))
          case first =>
            have x0 := HX.out.blk.cell 0
            have x1 := HX.out.blk.cell 1
            have x2 := HX.out.blk.cell 2
            have x3 := HX.out.blk.cell 3
            have x4 := HX.out.blk.cell 4
            have x5 := HX.out.blk.cell 5
            rcases HP.out with ⟨rfl, rfl⟩ | ⟨lb, qb, L, rfl, rfl, hl, hO⟩
            · have hk0 : kd ≠ 0 := fun q => HCT.out ⟨rfl, .inl q⟩
              have hk1 : kd ≠ 1 := fun q => HCT.out ⟨rfl, .inr q⟩
              clear HP HNE HB1 HCT HR c0 c1 c2 c3 c4 c5
              by_cases hk2 : kd = 2
              · subst hk2
                as_aux_lemma =>
                  clear hk0 hk1
                  go_upto_region 24 with (fail)

                  have HP := hd (p_arm HR1.out a.n HOk.out.n0 HOk.out.n1)
                  go_upto_region 25 with (go_at_call 16; refine HP.out.mono ?_; rintro e w2 ⟨rfl, fp2, h2, hk2⟩; have HR2 := hd h2; have HK2 := hd hk2; have y2 := (hk2.2 _ _ _ HX.out).blk.cell 2; have f3 := h2.raw.blk.frozen 3; have cc3 := h2.raw.blk.cell 3; clear h2 hk2)
                  have HR3 := hd (q_arm HR2.out a.n).1
                  have HK3 := hd (q_arm HR2.out a.n).2
                  clear HR1 HR2 HK2 HK3 HX HP

                  go_wp2_with (fail)
                  go_meet
                  exact ⟨_, fp2, _, rfl, rfl, hd HR3.out, hd (.inl ⟨rfl, rfl⟩)⟩
              by_cases hk3 : kd = 3
              · subst hk3
                as_aux_lemma =>
                  clear hk0 hk1 hk2
                  go_upto_region 27 with (fail)

                  have hso := HR1.out.mine.at_.ok
                  have HP := hd (p_crash HR1.out a.k0 a.k1 a.turn)
                  have HQ2 := hd (fun (w2 : World) (fp2 : List Nat) (h2 : Reels w w2 rb b gs gf (s.crash a.k0 a.k1 a.turn) s.toF fp2) => q_crash h2 hso a.k0 a.k1 a.turn)
                  have HSO := hd (hso.crash a.k0 a.k1 a.turn)
                  clear hso
                  obtain ⟨s1, hs1⟩ : ∃ s1, s.crash a.k0 a.k1 a.turn = s1 := ⟨_, rfl⟩
                  rw [hs1] at HP HQ2 HSO
                  clear hs1
                  go_upto_region 29 with (first | (go_at_call 17; refine HP.out.mono ?_; rintro e w2 ⟨rfl, fp2, h2, hk2⟩; have HR2 := hd h2; have y := (hk2.2 _ _ _ HX.out).blk; have y3 := y.cell 3; have y4 := y.cell 4; have y5 := y.cell 5; clear h2 hk2 y) | (go_at_call 18; refine (HQ2.out _ _ HR2.out).mono ?_; rintro e w3 ⟨rfl, h3, hk3⟩; have HR3 := hd h3; clear h3 hk3))
                  clear HX HR1 HR2 HP HQ2 x0 x1 x2 x3 x4 x5 y3 y4 y5
                  obtain ⟨s4, er, ho⟩ : ∃ s4 er, openM s1 = (s4, er) := ⟨_, _, rfl⟩
                  by_cases her : er = 0
                  · subst her
                    have HP4 := hd (p_open_ok HG.out HR3.out ho)
                    have HQ4 := hd (fun (w4 : World) (fp4 : List Nat) (lb4 B4 : Nat) (v4 : Value) (h4 : Reels w w4 rb b gs gf s4 s1.toF fp4) hl hlb hv => q_open_ok (lb := lb4) (B := B4) (v := v4) h4 HSO.out ho hl hlb hv)
                    have HOO := hd (openOf_ok (tape_le HSO.out 0) (tape_le HSO.out 1) (k + 1))
                    have hpl : ((pickC (tapeOf s1 0) (tapeOf s1 1)).2.2.1.map str).length ≤ 1000000000 := by
                      have h0 := (scanL_facts (tapeOf s1 0)).2.2.1
                      have h1 := (scanL_facts (tapeOf s1 1)).2.2.1
                      have t0 := tape_le HSO.out 0
                      have t1 := tape_le HSO.out 1
                      rw [List.length_map]
                      unfold pickC
                      split <;> omega
                    obtain ⟨recs, hrecs⟩ : ∃ recs, (pickC (tapeOf s1 0) (tapeOf s1 1)).2.2.1.map str = recs := ⟨_, rfl⟩
                    obtain ⟨base, hbase⟩ : ∃ base, str (pickC (tapeOf s1 0) (tapeOf s1 1)).2.1 = base := ⟨_, rfl⟩
                    obtain ⟨L4, hL4⟩ : ∃ L4, openOf (tapeOf s1 0) (tapeOf s1 1) = L4 := ⟨_, rfl⟩
                    rw [hrecs] at HP4 HQ4 hpl
                    rw [hbase] at HP4 HQ4
                    rw [hL4] at HP4 HQ4 HOO
                    clear ho hrecs hbase hL4
                    go_upto_region 31 with (first | (go_at_call 9; refine HP4.out.mono ?_; rintro e w4 ⟨lb4, v4, rfl, fp4, B4, h4, hl4, hlb4, hv4⟩; have HR4 := hd h4; have HL4 := hd hl4; have HLB4 := hd hlb4; have HV4 := hd hv4; clear h4 hl4 hlb4 hv4) | (go_at_call 10; refine (HQ4.out _ _ _ _ _ HR4.out HL4.out HLB4.out HV4.out).mono ?_; rintro e w5 ⟨qb5, v5, rfl, h5, hl5, ⟨B5, hv5⟩, B6, hv6⟩; have HR5 := hd h5; have HL5 := hd hl5; have HV5 := hd hv5; have HV6 := hd hv6; clear h5 hl5 hv5 hv6))
                    obtain ⟨A5, c5, rfl, g1, g2⟩ := Kd.R_reads HV5.out
                    obtain ⟨A6, c6, rfl, g3, g4⟩ := Kd.R_reads HV6.out
                    have HSA := hd (same_call2 (l0 := recs) (l1 := recs) ⟨rfl, g1, g2⟩ ⟨rfl, g3, g4⟩ hpl)
                    clear g1 g2 g3 g4 HP4 HQ4 HR3 HR4 HL4 HLB4 HV4 HV5 HV6 hpl
                    go_upto_region 33 with (first | (go_at_call 7; refine (num4_any _ _).mono ?_; rintro e w' ⟨rfl, rfl⟩) | (go_at_call 19; refine HSA.out.mono ?_; rintro e w6 ⟨rfl, n6, rfl⟩))
                    have HR6 := hd (HR5.out.drewN n6)
                    have HL6 := hd (HL5.out.drewN n6)
                    clear HR5 HL5 HSA
                    go_wp2_with (fail)
                    go_meet
                    exact ⟨s4, _, _, rfl, rfl, hd HR6.out, hd (.inr ⟨_, _, L4, rfl, rfl, HL6.out, HOO.out⟩)⟩

                  · have HP4 := hd (p_open_err HG.out HR3.out ho her)
                    have HQ4 := hd (fun (w4 : World) (fp4 : List Nat) (h4 : Reels w w4 rb b gs gf s4 s1.toF fp4) => q_open_err h4 HSO.out ho her)
                    clear ho her
                    go_upto_region 31 with (first | (go_at_call 9; refine HP4.out.mono ?_; rintro e w4 ⟨rfl, fp4, h4⟩; have HR4 := hd h4; clear h4) | (go_at_call 10; refine (HQ4.out _ _ HR4.out).mono ?_; rintro e w5 ⟨rfl, h5⟩; have HR5 := hd h5; clear h5))
                    have HSA := hd (same_call_nil w5)
                    clear HP4 HQ4 HR3 HR4
                    go_upto_region 33 with (first | (go_at_call 7; refine (num4_any _ _).mono ?_; rintro e w' ⟨rfl, rfl⟩) | (go_at_call 19; refine HSA.out.mono ?_; rintro e w6 ⟨rfl, n6, rfl⟩))
                    have HR6 := hd (HR5.out.drewN n6)
                    clear HR5 HSA
                    go_wp2_with (fail)
                    go_meet
                    exact ⟨s4, _, _, rfl, rfl, hd HR6.out, hd (.inl ⟨rfl, rfl⟩)⟩
              by_cases hk4 : kd = 4
              · subst hk4
                as_aux_lemma =>
                  clear hk0 hk1 hk2 hk3
                  go_upto_region 35 with (fail)

                  have hso := HR1.out.mine.at_.ok
                  have HP := hd (fun t => p_write (HR1.out.drewN 1) t a.s (by omega))
                  have HQ2 := hd (fun (w2 : World) (fp2 : List Nat) (t : Int) (h2 : Reels w w2 rb b gs gf (s.write t (bsL a.s)).1 s.toF fp2) => q_write h2 hso t a.s (by omega))
                  clear hso
                  go_region_held (fun w' => w'.cell? ⟨wr.heap.size, 1, none⟩ = some (.string a.s) ∧ w'.cell? ⟨wr.heap.size, 2, none⟩ = some (.int .i64 a.n)) (first | exact ⟨x1, x2⟩ | exact y12 | exact z12) (first | (go_at_call 20; refine (HP.out _).mono ?_; rintro e w2 ⟨rfl, fp2, h2, hk2⟩; have HR2 := hd h2; have HK2 := hd hk2; have HX2 := hd (hk2.2 _ _ _ (HX.out.drewN 1)); have y12 := And.intro (HX2.out.blk.cell 1) (HX2.out.blk.cell 2); clear h2 hk2) | (go_at_call 7; refine (num4_any _ _).mono ?_; rintro e w' ⟨rfl, rfl⟩) | (go_at_call 21; refine (HQ2.out _ _ _ HR2.out).mono ?_; rintro e w3 ⟨rfl, h3, hk3⟩; have HR3 := hd h3; have HK3 := hd hk3; have HX3 := hd (hk3.2 _ _ _ HX2.out); have z12 := And.intro (HX3.out.blk.cell 1) (HX3.out.blk.cell 2); clear h3 hk3))
                  all_goals
                    clear HR1 HR2 HK2 HK3 HX HX2 HX3 HP HQ2
                    go_wp2_with (fail)
                    go_meet
                    exact ⟨_, fp2, _, rfl, rfl, hd HR3.out, hd (.inl ⟨rfl, rfl⟩)⟩
              have e0 : (kd == 0) = false := beq_eq_false_iff_ne.2 hk0
              have e1 : (kd == 1) = false := beq_eq_false_iff_ne.2 hk1
              have e2 : (kd == 2) = false := beq_eq_false_iff_ne.2 hk2
              have e3 : (kd == 3) = false := beq_eq_false_iff_ne.2 hk3
              have e4 : (kd == 4) = false := beq_eq_false_iff_ne.2 hk4
              clear hk0 hk1 hk2 hk3 hk4
              go_wp2_with (fail)
              go_meet
              exact ⟨_, fp, _, rfl, rfl, hd HR1.out, hd (.inl ⟨rfl, rfl⟩)⟩
            · have HLO := hd hO
              have HL1 := hd (hl.below_ HB1.out)
              have HNE2 := hd (HNE.out _ _ _ hl)
              clear HP HB1 hl hO HNE HCT HR c0 c1 c2 c3 c4 c5
              by_cases hk0 : kd = 0
              · subst hk0
                as_aux_lemma =>
                  go_upto_region 21 with (fail)

                  obtain ⟨s2, L2, er, hm⟩ : ∃ s2 L2 er, addM s L (bsL a.s) = (s2, L2, er) := ⟨_, _, _, rfl⟩
                  have HP := hd (p_add HG.out (HR1.out.drewN 1) (HL1.out.drewN 1) (HLO.out.ok hk50) a.s (by omega))
                  have HO2 := hd (HLO.out.add s (bsL a.s))
                  have hso := HR1.out.mine.at_.ok
                  have HQ2 : Hd (∀ (w2 : World) (fp2 : List Nat), Reels w w2 rb b gs gf s2 s.toF fp2 → Leds w w2 rb b gs gf fp2 lb qb L2 L → Calls Tryz.prog 13 #[.pointer (some ⟨qb, 0, none⟩), .string a.s] w2 fun r w' => r = .returned (.int .i64 er) ∧ Reels w w' rb b gs gf s2 s2.toF fp2 ∧ Leds w w' rb b gs gf fp2 lb qb L2 L2 ∧ (∀ xb cs T, xb ≠ qb → Far w2 b gs gf fp2 xb cs T → Far w' b gs gf fp2 xb cs T)) := by
                    refine hd fun w2 fp2 h2 hl2 => ?_
                    have := q_add h2 hso hl2 (HLO.out.ok hk50) a.s (by omega)
                    rw [hm] at this
                    exact this
                  rw [hm] at HP HO2
                  clear hm hso
                  go_region_held (fun w' => w'.cell? ⟨wr.heap.size, 1, none⟩ = some (.string a.s)) (first | exact x1 | exact y1 | exact z1) (first | (go_at_call 12; refine HP.out.mono ?_; rintro e w2 ⟨rfl, fp2, h2, hl2, hx2⟩; have HR2 := hd h2; have HL2 := hd hl2; have HX2 := hd (hx2 _ _ _ HNE2.out.1 (HX.out.drewN 1)); have y1 := HX2.out.blk.cell 1; clear h2 hl2 hx2) | (go_at_call 7; refine (num4_any _ _).mono ?_; rintro e w' ⟨rfl, rfl⟩) | (go_at_call 13; refine (HQ2.out _ _ HR2.out HL2.out).mono ?_; rintro e w3 ⟨rfl, h3, hl3, hx3⟩; have HR3 := hd h3; have HL3 := hd hl3; have z1 := (hx3 _ _ _ HNE2.out.2 HX2.out).blk.cell 1; clear h3 hl3 hx3))
                  all_goals
                    clear HR1 HL1 HR2 HL2 HX HX2 
                    go_wp2_with (fail)
                    go_meet
                    exact ⟨s2, fp2, _, rfl, rfl, hd HR3.out, hd (.inr ⟨_, _, L2, rfl, rfl, HL3.out, HO2.out⟩)⟩
              by_cases hk1 : kd = 1
              · subst hk1
                as_aux_lemma =>
                  clear hk0
                  go_upto_region 22 with (fail)

                  obtain ⟨s2, L2, er, hm⟩ : ∃ s2 L2 er, baseM s L (bsL a.s) = (s2, L2, er) := ⟨_, _, _, rfl⟩
                  have HP := hd (p_base HG.out (HR1.out.drewN 1) (HL1.out.drewN 1) (HLO.out.ok hk50) a.s (by omega))
                  have HO2 := hd (HLO.out.base s (bsL a.s))
                  have hso := HR1.out.mine.at_.ok
                  have HQ2 : Hd (∀ (w2 : World) (fp2 : List Nat), Reels w w2 rb b gs gf s2 s.toF fp2 → Leds w w2 rb b gs gf fp2 lb qb L2 L → Calls Tryz.prog 15 #[.pointer (some ⟨qb, 0, none⟩), .string a.s] w2 fun r w' => r = .returned (.int .i64 er) ∧ Reels w w' rb b gs gf s2 s2.toF fp2 ∧ Leds w w' rb b gs gf fp2 lb qb L2 L2 ∧ (∀ xb cs T, xb ≠ qb → Far w2 b gs gf fp2 xb cs T → Far w' b gs gf fp2 xb cs T)) := by
                    refine hd fun w2 fp2 h2 hl2 => ?_
                    have := q_base h2 hso hl2 (HLO.out.ok hk50) a.s (by omega)
                    rw [hm] at this
                    exact this
                  rw [hm] at HP HO2
                  clear hm hso
                  go_region_held (fun w' => w'.cell? ⟨wr.heap.size, 1, none⟩ = some (.string a.s)) (first | exact x1 | exact y1 | exact z1) (first | (go_at_call 14; refine HP.out.mono ?_; rintro e w2 ⟨rfl, fp2, h2, hl2, hx2⟩; have HR2 := hd h2; have HL2 := hd hl2; have HX2 := hd (hx2 _ _ _ HNE2.out.1 (HX.out.drewN 1)); have y1 := HX2.out.blk.cell 1; clear h2 hl2 hx2) | (go_at_call 7; refine (num4_any _ _).mono ?_; rintro e w' ⟨rfl, rfl⟩) | (go_at_call 15; refine (HQ2.out _ _ HR2.out HL2.out).mono ?_; rintro e w3 ⟨rfl, h3, hl3, hx3⟩; have HR3 := hd h3; have HL3 := hd hl3; have z1 := (hx3 _ _ _ HNE2.out.2 HX2.out).blk.cell 1; clear h3 hl3 hx3))
                  all_goals
                    clear HR1 HL1 HR2 HL2 HX HX2 
                    go_wp2_with (fail)
                    go_meet
                    exact ⟨s2, fp2, _, rfl, rfl, hd HR3.out, hd (.inr ⟨_, _, L2, rfl, rfl, HL3.out, HO2.out⟩)⟩
              by_cases hk2 : kd = 2
              · subst hk2
                as_aux_lemma =>
                  clear hk0 hk1
                  go_upto_region 24 with (fail)

                  have HP := hd (p_arm HR1.out a.n HOk.out.n0 HOk.out.n1)
                  go_upto_region 25 with (go_at_call 16; refine HP.out.mono ?_; rintro e w2 ⟨rfl, fp2, h2, hk2⟩; have HR2 := hd h2; have HK2 := hd hk2; have y2 := (hk2.2 _ _ _ HX.out).blk.cell 2; have f3 := h2.raw.blk.frozen 3; have cc3 := h2.raw.blk.cell 3; clear h2 hk2)
                  have HR3 := hd (q_arm HR2.out a.n).1
                  have HK3 := hd (q_arm HR2.out a.n).2
                  have HL3 := hd (HK3.out.1 _ _ _ _ (HK2.out.1 _ _ _ _ HL1.out))
                  clear HR1 HR2 HK2 HK3 HL1 HX  HP

                  go_wp2_with (fail)
                  go_meet
                  exact ⟨_, fp2, _, rfl, rfl, hd HR3.out, hd (.inr ⟨_, _, L, rfl, rfl, HL3.out, HLO.out.later⟩)⟩
              by_cases hk3 : kd = 3
              · subst hk3
                as_aux_lemma =>
                  clear hk0 hk1 hk2
                  go_upto_region 27 with (fail)

                  have hso := HR1.out.mine.at_.ok
                  have HP := hd (p_crash HR1.out a.k0 a.k1 a.turn)
                  have HQ2 := hd (fun (w2 : World) (fp2 : List Nat) (h2 : Reels w w2 rb b gs gf (s.crash a.k0 a.k1 a.turn) s.toF fp2) => q_crash h2 hso a.k0 a.k1 a.turn)
                  have HSO := hd (hso.crash a.k0 a.k1 a.turn)
                  clear hso
                  obtain ⟨s1, hs1⟩ : ∃ s1, s.crash a.k0 a.k1 a.turn = s1 := ⟨_, rfl⟩
                  rw [hs1] at HP HQ2 HSO
                  clear hs1
                  go_upto_region 29 with (first | (go_at_call 17; refine HP.out.mono ?_; rintro e w2 ⟨rfl, fp2, h2, hk2⟩; have HR2 := hd h2; have y := (hk2.2 _ _ _ HX.out).blk; have y3 := y.cell 3; have y4 := y.cell 4; have y5 := y.cell 5; clear h2 hk2 y) | (go_at_call 18; refine (HQ2.out _ _ HR2.out).mono ?_; rintro e w3 ⟨rfl, h3, hk3⟩; have HR3 := hd h3; clear h3 hk3))
                  clear HX HR1 HR2 HP HQ2 x0 x1 x2 x3 x4 x5 y3 y4 y5
                  obtain ⟨s4, er, ho⟩ : ∃ s4 er, openM s1 = (s4, er) := ⟨_, _, rfl⟩
                  by_cases her : er = 0
                  · subst her
                    have HP4 := hd (p_open_ok HG.out HR3.out ho)
                    have HQ4 := hd (fun (w4 : World) (fp4 : List Nat) (lb4 B4 : Nat) (v4 : Value) (h4 : Reels w w4 rb b gs gf s4 s1.toF fp4) hl hlb hv => q_open_ok (lb := lb4) (B := B4) (v := v4) h4 HSO.out ho hl hlb hv)
                    have HOO := hd (openOf_ok (tape_le HSO.out 0) (tape_le HSO.out 1) (k + 1))
                    have hpl : ((pickC (tapeOf s1 0) (tapeOf s1 1)).2.2.1.map str).length ≤ 1000000000 := by
                      have h0 := (scanL_facts (tapeOf s1 0)).2.2.1
                      have h1 := (scanL_facts (tapeOf s1 1)).2.2.1
                      have t0 := tape_le HSO.out 0
                      have t1 := tape_le HSO.out 1
                      rw [List.length_map]
                      unfold pickC
                      split <;> omega
                    obtain ⟨recs, hrecs⟩ : ∃ recs, (pickC (tapeOf s1 0) (tapeOf s1 1)).2.2.1.map str = recs := ⟨_, rfl⟩
                    obtain ⟨base, hbase⟩ : ∃ base, str (pickC (tapeOf s1 0) (tapeOf s1 1)).2.1 = base := ⟨_, rfl⟩
                    obtain ⟨L4, hL4⟩ : ∃ L4, openOf (tapeOf s1 0) (tapeOf s1 1) = L4 := ⟨_, rfl⟩
                    rw [hrecs] at HP4 HQ4 hpl
                    rw [hbase] at HP4 HQ4
                    rw [hL4] at HP4 HQ4 HOO
                    clear ho hrecs hbase hL4
                    go_upto_region 31 with (first | (go_at_call 9; refine HP4.out.mono ?_; rintro e w4 ⟨lb4, v4, rfl, fp4, B4, h4, hl4, hlb4, hv4⟩; have HR4 := hd h4; have HL4 := hd hl4; have HLB4 := hd hlb4; have HV4 := hd hv4; clear h4 hl4 hlb4 hv4) | (go_at_call 10; refine (HQ4.out _ _ _ _ _ HR4.out HL4.out HLB4.out HV4.out).mono ?_; rintro e w5 ⟨qb5, v5, rfl, h5, hl5, ⟨B5, hv5⟩, B6, hv6⟩; have HR5 := hd h5; have HL5 := hd hl5; have HV5 := hd hv5; have HV6 := hd hv6; clear h5 hl5 hv5 hv6))
                    obtain ⟨A5, c5, rfl, g1, g2⟩ := Kd.R_reads HV5.out
                    obtain ⟨A6, c6, rfl, g3, g4⟩ := Kd.R_reads HV6.out
                    have HSA := hd (same_call2 (l0 := recs) (l1 := recs) ⟨rfl, g1, g2⟩ ⟨rfl, g3, g4⟩ hpl)
                    clear g1 g2 g3 g4 HP4 HQ4 HR3 HR4 HL4 HLB4 HV4 HV5 HV6 hpl
                    go_upto_region 33 with (first | (go_at_call 7; refine (num4_any _ _).mono ?_; rintro e w' ⟨rfl, rfl⟩) | (go_at_call 19; refine HSA.out.mono ?_; rintro e w6 ⟨rfl, n6, rfl⟩))
                    have HR6 := hd (HR5.out.drewN n6)
                    have HL6 := hd (HL5.out.drewN n6)
                    clear HR5 HL5 HSA
                    go_wp2_with (fail)
                    go_meet
                    exact ⟨s4, _, _, rfl, rfl, hd HR6.out, hd (.inr ⟨_, _, L4, rfl, rfl, HL6.out, HOO.out⟩)⟩

                  · have HP4 := hd (p_open_err HG.out HR3.out ho her)
                    have HQ4 := hd (fun (w4 : World) (fp4 : List Nat) (h4 : Reels w w4 rb b gs gf s4 s1.toF fp4) => q_open_err h4 HSO.out ho her)
                    clear ho her
                    go_upto_region 31 with (first | (go_at_call 9; refine HP4.out.mono ?_; rintro e w4 ⟨rfl, fp4, h4⟩; have HR4 := hd h4; clear h4) | (go_at_call 10; refine (HQ4.out _ _ HR4.out).mono ?_; rintro e w5 ⟨rfl, h5⟩; have HR5 := hd h5; clear h5))
                    have HSA := hd (same_call_nil w5)
                    clear HP4 HQ4 HR3 HR4
                    go_upto_region 33 with (first | (go_at_call 7; refine (num4_any _ _).mono ?_; rintro e w' ⟨rfl, rfl⟩) | (go_at_call 19; refine HSA.out.mono ?_; rintro e w6 ⟨rfl, n6, rfl⟩))
                    have HR6 := hd (HR5.out.drewN n6)
                    clear HR5 HSA
                    go_wp2_with (fail)
                    go_meet
                    exact ⟨s4, _, _, rfl, rfl, hd HR6.out, hd (.inl ⟨rfl, rfl⟩)⟩
              by_cases hk4 : kd = 4
              · subst hk4
                as_aux_lemma =>
                  clear hk0 hk1 hk2 hk3
                  go_upto_region 35 with (fail)

                  have hso := HR1.out.mine.at_.ok
                  have HP := hd (fun t => p_write (HR1.out.drewN 1) t a.s (by omega))
                  have HQ2 := hd (fun (w2 : World) (fp2 : List Nat) (t : Int) (h2 : Reels w w2 rb b gs gf (s.write t (bsL a.s)).1 s.toF fp2) => q_write h2 hso t a.s (by omega))
                  clear hso
                  go_region_held (fun w' => w'.cell? ⟨wr.heap.size, 1, none⟩ = some (.string a.s) ∧ w'.cell? ⟨wr.heap.size, 2, none⟩ = some (.int .i64 a.n)) (first | exact ⟨x1, x2⟩ | exact y12 | exact z12) (first | (go_at_call 20; refine (HP.out _).mono ?_; rintro e w2 ⟨rfl, fp2, h2, hk2⟩; have HR2 := hd h2; have HK2 := hd hk2; have HX2 := hd (hk2.2 _ _ _ (HX.out.drewN 1)); have y12 := And.intro (HX2.out.blk.cell 1) (HX2.out.blk.cell 2); clear h2 hk2) | (go_at_call 7; refine (num4_any _ _).mono ?_; rintro e w' ⟨rfl, rfl⟩) | (go_at_call 21; refine (HQ2.out _ _ _ HR2.out).mono ?_; rintro e w3 ⟨rfl, h3, hk3⟩; have HR3 := hd h3; have HK3 := hd hk3; have HX3 := hd (hk3.2 _ _ _ HX2.out); have z12 := And.intro (HX3.out.blk.cell 1) (HX3.out.blk.cell 2); clear h3 hk3))
                  all_goals
                    have HL3 := hd (HK3.out.1 _ _ _ _ (HK2.out.1 _ _ _ _ (HL1.out.drewN 1)))
                    clear HR1 HR2 HK2 HK3 HL1 HX HX2 HX3 HP HQ2
                    go_wp2_with (fail)
                    go_meet
                    exact ⟨_, fp2, _, rfl, rfl, hd HR3.out, hd (.inr ⟨_, _, L, rfl, rfl, HL3.out, HLO.out.later⟩)⟩
              have e0 : (kd == 0) = false := beq_eq_false_iff_ne.2 hk0
              have e1 : (kd == 1) = false := beq_eq_false_iff_ne.2 hk1
              have e2 : (kd == 2) = false := beq_eq_false_iff_ne.2 hk2
              have e3 : (kd == 3) = false := beq_eq_false_iff_ne.2 hk3
              have e4 : (kd == 4) = false := beq_eq_false_iff_ne.2 hk4
              clear hk0 hk1 hk2 hk3 hk4
              go_wp2_with (fail)
              go_meet
              exact ⟨_, fp, _, rfl, rfl, hd HR1.out, hd (.inr ⟨_, _, L, rfl, rfl, HL1.out, HLO.out.later⟩)⟩
          obtain ⟨s', fp', er', rfl, rfl, HRc, HPc⟩ := hcut
          clear HP HB1 HNE HCT HR HR1 HX c0 c1 c2 c3 c4 c5
          rcases HPc.out with ⟨rfl, rfl⟩ | ⟨lb', qb', L', rfl, rfl, hlc, hOc⟩
          · clear HPc
            as_aux_lemma =>
              go_upto_region 38 with (first | (go_at_call 11; refine (same4_any HRc.out).mono ?_; rintro e wz ⟨rfl, nz, rfl⟩) | (go_at_call 7; refine (num4_any _ _).mono ?_; rintro e w' ⟨rfl, rfl⟩))
              have HQ := hd (HRc.out.drewN nz)
              clear HRc
              generalize World.drewN _ nz = wy at *
              go_quiet (fail)
              go_wp2_with (fail)
              exact ⟨⟨k + 1, s', fp', by omega, by go_num, hd (HQ.out.drewN nq), hd (.inl ⟨rfl, rfl⟩)⟩, by simp [RowKit.intOf]; omega⟩
          · have HLc := hd hlc
            have HLOc := hd hOc
            clear HPc hlc hOc
            as_aux_lemma =>
              go_upto_region 38 with (first | (go_at_call 11; refine (same4_any HRc.out).mono ?_; rintro e wz ⟨rfl, nz, rfl⟩) | (go_at_call 7; refine (num4_any _ _).mono ?_; rintro e w' ⟨rfl, rfl⟩))
              have HZ := hd (HLc.out.drewN nz)
              have HQ := hd (HRc.out.drewN nz)
              obtain ⟨z2, z3, z4⟩ := leds_cells HZ.out
              have HLP := hd (HZ.out.lg.led HQ.out.mine)
              clear HLc HRc
              generalize World.drewN _ nz = wy at *
              go_quiet ((first | (go_at_call 22; exact quiet_of_eq (Tryz.ledEpoch _ _ _ _ _ _ _ _ (HLP.out.drewN _))) | (go_at_call 23; exact quiet_of_eq (Tryz.ledRecords _ _ _ _ _ _ _ _ (HLP.out.drewN _))) | (go_at_call 24; exact quiet_of_eq (broken_led _ _ _ _ _ _ _ _ (HLP.out.drewN _)))))
              go_wp2_with (fail)
              exact ⟨⟨k + 1, s', fp', by omega, by go_num, hd (HQ.out.drewN nq), hd (.inr ⟨_, _, L', rfl, rfl, HZ.out.drewN nq, HLOc.out⟩)⟩, by simp [RowKit.intOf]; omega⟩
      · obtain rfl : k = l.length := by omega
        go_wp2_with (go_at_call 5; refine (LV.out _ HR.out.mine.below).mono ?_; rintro e w1 ⟨rfl, hl⟩)
        go_ret
        exact ⟨rfl, hl⟩
/-- As the row wants it. -/
theorem plays_walk {H : Type} {enc : TypeId × Value → H} (W : World) (hG : Gl W) (room : Int) (_ : (Lit.int .i64 room).wf = true) (v : Value) (ho : ∃ A n c, v = .slice A n c) {d : DataW H} {p : List MemPlace} (h : DataW.Trod enc Tryz.prog W 0 (fun _ => true) true 22 v d p) (hl : Light Tryz.prog 22 d) :
    Calls Tryz.prog 3 #[.int .i64 room, v] W fun e w' => e = .returned (.bool true) ∧ Below W.heap.size W w' := by
  obtain ⟨A, l, c, rfl, hn, hA⟩ := open_acts ho h hl
  exact plays_core W hG room A c l hA hn
end Go.Proofs.YtjmejamgbinigaaGreatDoor
