/-
  Lemmas, joined of the texts Acts5.
-/
import Derived.Test.YtopajmbblemopaaGreatDoorMB12
import Derived.Test.YtopajmbblemopaaGreatDoorMB19
namespace Go.Proofs.YtopajmbblemopaaGreatDoor
set_option linter.unusedVariables false
set_option linter.unusedSimpArgs false
open Go.RowKit

structure SAct where
  kind : Int
  A : Option Addr
  c : Nat
  l : List MC
  n : Int
  k0 : Int
  k1 : Int
  turn : UInt8

namespace SAct
def cells (a : SAct) : List Value := [.int .i64 a.kind, .slice a.A a.l.length a.c, .int .i64 a.n, .int .i64 a.k0, .int .i64 a.k1, .int .u8 a.turn.toNat]
structure Ok (a : SAct) : Prop where
  n0 : -9223372036854775808 ≤ a.n
  n1 : a.n ≤ 9223372036854775807
  len : a.l.length ≤ 140737488351232
  cap : a.l.length ≤ a.c
end SAct
instance : Inhabited MC := ⟨⟨⟨#[]⟩, ⟨#[]⟩, false⟩⟩
instance : Inhabited SAct := ⟨⟨0, none, 0, [], 0, 0, 0, 0⟩⟩
/-- No text of a change is longer than what a row lets in. -/
def Slim (l : List MC) : Prop := ∀ c ∈ l, c.key.size ≤ 140737488351232 ∧ c.val.size ≤ 140737488351232

/-- Acts in memory: six cells each; each one's changes. -/
structure SActsAt (w : World) (A : Option Addr) (l : List SAct) : Prop where
  ok : ∀ a ∈ l, a.Ok
  addr : l ≠ [] → ∃ b off, A = some ⟨b, off, none⟩
  cell : ∀ (b off i j : Nat) (a : SAct) (v : Value), A = some ⟨b, off, none⟩ → l[i]? = some a → a.cells[j]? = some v → w.cell? ⟨b, off + (i * 6 + j), none⟩ = some v
  row : ∀ a ∈ l, ChAt w a.A a.l ∧ Slim a.l
theorem ChAt.below {w w' : World} {A : Option Addr} {l : List MC} (h : ChAt w A l) (hb : Below w.heap.size w w') : ChAt w' A l := h.chg (Chg.of_below hb (fun _ => False)) (fun _ _ _ q => q)
theorem SActsAt.below {w w' : World} {A : Option Addr} {l : List SAct} (h : SActsAt w A l) (hb : Below w.heap.size w w') : SActsAt w' A l :=
  ⟨h.ok, h.addr, fun b off i j a v hA hi hj => by
    have := h.cell b off i j a v hA hi hj
    exact (hb.cell (World.block_lt_of_cell? w _ this)).trans this, fun a ha => ⟨(h.row a ha).1.below hb, (h.row a ha).2⟩⟩
/-- A row of changes lies where it lies: below the world that it came into. -/
theorem ChAt.old {w : World} {A : Option Addr} {l : List MC} (h : ChAt w A l) (hne : l ≠ []) {b off : Nat} (hA : A = some ⟨b, off, none⟩) : b < w.heap.size := by
  cases l with
  | nil => exact absurd rfl hne
  | cons c l => exact World.block_lt_of_cell? w _ (h.cell b off 0 0 c (.string c.key) hA rfl rfl)
theorem i64_bd {n : Int} (h : (Lit.int .i64 n).wf = true) : -9223372036854775808 ≤ n ∧ n ≤ 9223372036854775807 := by
  simpa [Lit.wf, IntKind.min, IntKind.max, IntKind.signed, IntKind.bits] using h
theorem u8_of' (x : Int) (h : (Lit.int .u8 x).wf = true) : ∃ y : UInt8, x = y.toNat := by
  have hb : 0 ≤ x ∧ x ≤ 255 := by simpa [Lit.wf, IntKind.min, IntKind.max, IntKind.signed, IntKind.bits] using h
  refine ⟨UInt8.ofNat x.toNat, ?_⟩
  simp
  omega

section
variable {H : Type} {enc : TypeId × Value → H} {w : World} {spare : Nat → Bool} {held : Bool}

theorem ch_leaves : leaves Tryz.prog 4 51 = [.str, .str, .bool] := by kernel_rfl
theorem ch_flat : flatB Tryz.prog 4 51 = true := by kernel_rfl
theorem ch_cells : Tryz.prog.cellsOf 51 = 3 := by kernel_rfl
theorem ch_of {cs : List Value} (h : LeafAll enc Tryz.prog w 0 spare held [.str, .str, .bool] cs) : ∃ c : MC, cs = c.cells ∧ c.key.size ≤ 140737488351232 ∧ c.val.size ≤ 140737488351232 := by
  rcases cs with _ | ⟨c0, _ | ⟨c1, _ | ⟨c2, _ | ⟨c3, r⟩⟩⟩⟩
  all_goals try (have := LeafAll.length h; simp at this; done)
  obtain ⟨⟨x0, rfl, w0⟩, ⟨x1, rfl, w1⟩, ⟨x2, rfl⟩, _⟩ := h
  exact ⟨⟨x0, x1, x2⟩, rfl, w0, w1⟩
set_option maxRecDepth 100000 in
theorem open_chs {v : Value} {d : DataW H} {p : List MemPlace} (hv0 : ∃ A n c, v = .slice A n c) (h : DataW.Trod enc Tryz.prog w 0 spare held 22 v d p) (hl : Light Tryz.prog 22 d) :
    ∃ A l c, v = .slice A l.length c ∧ l.length ≤ 140737488351232 ∧ l.length ≤ c ∧ ChAt w A l ∧ Slim l := by
  rcases open_rows 4 3 Tryz.underlying22 ch_cells ch_flat hv0 h hl with rfl | ⟨a, len, cap, C, rfl, hcap, _, hlen, hC⟩
  · exact ⟨none, [], 0, rfl, by simp, Nat.le_refl _, ⟨by simp, fun h => absurd rfl h, fun b off i j a v hA => by cases hA⟩, fun c hc => by simp at hc⟩
  · rw [ch_leaves] at hC
    obtain ⟨F, hF⟩ := Deep.choose_lt (α := MC) (n := len) (p := fun i x => C i = x.cells ∧ x.key.size ≤ 140737488351232 ∧ x.val.size ≤ 140737488351232) (fun i hi => ch_of (hC i hi).1)
    have hb : Tryz.prog.bytesOf 51 = 40 := by kernel_rfl
    rw [hb] at hlen
    have hsl : ∀ x ∈ (List.range len).map F, x.key.size ≤ 140737488351232 ∧ x.val.size ≤ 140737488351232 := by
      intro x hx
      obtain ⟨i, hi, rfl⟩ := List.mem_map.1 hx
      exact (hF i (List.mem_range.1 hi)).2
    refine ⟨some a, (List.range len).map F, cap, by simp, by simp; omega, by simpa using hcap, ⟨?_, ?_, ?_⟩, hsl⟩
    · intro x hx
      have := hsl x hx
      unfold maxLen
      omega
    · intro hne
      have h0 : 0 < len := by
        rcases Nat.eq_zero_or_pos len with h0 | h0
        · subst h0; exact absurd rfl hne
        · exact h0
      have := (hC 0 h0).2.2 0 (by omega)
      rw [(hF 0 h0).1] at this
      have ha := plain_addr (a := a.add (0 * 3 + 0)) (this.trans rfl)
      have h00 : a.add (0 * 3 + 0) = a := by unfold Addr.add; simp
      rw [h00] at ha
      exact ⟨a.block, a.off, by rw [← ha]⟩
    · intro b off i j x v hA hi hj
      injection hA with hA
      subst hA
      have hil : i < len := by
        have := (List.getElem?_eq_some_iff.1 hi).1
        simpa using this
      have hx : F i = x := by simpa [hil] using hi
      have hj7 : j < 3 := by
        have := (List.getElem?_eq_some_iff.1 hj).1
        simpa [MC.cells] using this
      have := (hC i hil).2.2 j hj7
      rw [(hF i hil).1, hx, add_off, hj] at this
      exact this
theorem deep_slice {P : Program} {e t : TypeId} (ht : P.underlying t = some (.slice e)) {v : Value} (h : LeafOk enc P w 0 spare held (.deep t) v) : ∃ A n c, v = .slice A n c := by
  obtain ⟨n, x, hx, _⟩ := h
  rcases Deep.open_slice ht hx with ⟨h0, _⟩ | ⟨a, len, cap, m, q, D, Pl, hv, _⟩
  · injection h0 with h0
    exact ⟨_, _, _, h0⟩
  · injection hv with hv
    exact ⟨_, _, _, hv⟩
theorem deep_chs {v : Value} (h : LeafOk enc Tryz.prog w 0 spare held (.deep 22) v) : ∃ A l c, v = .slice A l.length c ∧ l.length ≤ 140737488351232 ∧ l.length ≤ c ∧ ChAt w A l ∧ Slim l := by
  have h0 := deep_slice Tryz.underlying22 h
  obtain ⟨n, x, hx, hl⟩ := h
  have hv : v.cells.toList = [v] := by
    obtain ⟨A, n, c, rfl⟩ := h0
    rfl
  exact open_chs h0 ⟨n, by rw [hv]; exact hx⟩ hl
theorem sact_leaves : leaves Tryz.prog 4 28 = [.int .i64, .deep 22, .int .i64, .int .i64, .int .i64, .int .u8] := by kernel_rfl
theorem sact_flat : flatB Tryz.prog 4 28 = true := by kernel_rfl
theorem sact_cells : Tryz.prog.cellsOf 28 = 6 := by kernel_rfl
theorem sact_of {cs : List Value} (h : LeafAll enc Tryz.prog w 0 spare held [.int .i64, .deep 22, .int .i64, .int .i64, .int .i64, .int .u8] cs) : ∃ a : SAct, cs = a.cells ∧ a.Ok ∧ ChAt w a.A a.l ∧ Slim a.l := by
  rcases cs with _ | ⟨c0, _ | ⟨c1, _ | ⟨c2, _ | ⟨c3, _ | ⟨c4, _ | ⟨c5, _ | ⟨c6, r⟩⟩⟩⟩⟩⟩⟩
  all_goals try (have := h.length; simp at this; done)
  obtain ⟨⟨x0, rfl, _⟩, hd, ⟨x3, rfl, w3⟩, ⟨x4, rfl, _⟩, ⟨x5, rfl, _⟩, ⟨x6, rfl, w6⟩, _⟩ := h
  obtain ⟨A, l, c, rfl, h1, h2, h3, h4⟩ := deep_chs hd
  obtain ⟨y, rfl⟩ := u8_of' x6 w6
  have b := i64_bd w3
  exact ⟨⟨x0, A, c, l, x3, x4, x5, y⟩, rfl, ⟨b.1, b.2, h1, h2⟩, h3, h4⟩
set_option maxRecDepth 100000 in
theorem open_sacts {v : Value} {d : DataW H} {p : List MemPlace} (hv0 : ∃ A n c, v = .slice A n c) (h : DataW.Trod enc Tryz.prog w 0 spare held 29 v d p) (hl : Light Tryz.prog 29 d) :
    ∃ A l c, v = .slice A l.length c ∧ l.length ≤ 140737488351232 ∧ SActsAt w A l := by
  rcases open_rows 4 6 Tryz.underlying29 sact_cells sact_flat hv0 h hl with rfl | ⟨a, len, cap, C, rfl, _, _, hlen, hC⟩
  · exact ⟨none, [], 0, rfl, by simp, ⟨by simp, fun h => absurd rfl h, fun b off i j a v hA => (by cases hA), fun a ha => (by simp at ha)⟩⟩
  · rw [sact_leaves] at hC
    obtain ⟨F, hF⟩ := Deep.choose_lt (α := SAct) (n := len) (p := fun i x => C i = x.cells ∧ x.Ok ∧ ChAt w x.A x.l ∧ Slim x.l) (fun i hi => sact_of (hC i hi).1)
    have hb : Tryz.prog.bytesOf 28 = 64 := by kernel_rfl
    rw [hb] at hlen
    have hmem : ∀ x ∈ (List.range len).map F, x.Ok ∧ ChAt w x.A x.l ∧ Slim x.l := by
      intro x hx
      obtain ⟨i, hi, rfl⟩ := List.mem_map.1 hx
      exact (hF i (List.mem_range.1 hi)).2
    refine ⟨some a, (List.range len).map F, cap, by simp, by simp; omega, ⟨fun x hx => (hmem x hx).1, ?_, ?_, fun x hx => (hmem x hx).2⟩⟩
    · intro hne
      have h0 : 0 < len := by
        rcases Nat.eq_zero_or_pos len with h0 | h0
        · subst h0; exact absurd rfl hne
        · exact h0
      have := (hC 0 h0).2.2 0 (by omega)
      rw [(hF 0 h0).1] at this
      have ha := plain_addr (a := a.add (0 * 6 + 0)) (this.trans rfl)
      have h00 : a.add (0 * 6 + 0) = a := by unfold Addr.add; simp
      rw [h00] at ha
      exact ⟨a.block, a.off, by rw [← ha]⟩
    · intro b off i j x v hA hi hj
      injection hA with hA
      subst hA
      have hil : i < len := by
        have := (List.getElem?_eq_some_iff.1 hi).1
        simpa using this
      have hx : F i = x := by simpa [hil] using hi
      have hj7 : j < 6 := by
        have := (List.getElem?_eq_some_iff.1 hj).1
        simpa [SAct.cells] using this
      have := (hC i hil).2.2 j hj7
      rw [(hF i hil).1, hx, add_off, hj] at this
      exact this
end
/-! ### How much there is -/
def szM (c : MC) : Nat := 1 + c.key.size + c.val.size
def totM (l : List MC) (k : Nat) : Nat := ((l.take k).map szM).sum
theorem totM_succ (l : List MC) (k : Nat) (a : MC) (h : l[k]? = some a) : totM l (k + 1) = totM l k + szM a := by
  unfold totM
  rw [List.take_add_one, h]
  simp
def totA (l : List SAct) (k : Nat) : Nat := ((l.take k).map (fun a => totM a.l a.l.length)).sum
theorem totA_succ (l : List SAct) (k : Nat) (a : SAct) (h : l[k]? = some a) : totA l (k + 1) = totA l k + totM a.l a.l.length := by
  unfold totA
  rw [List.take_add_one, h]
  simp
theorem totA_mono (l : List SAct) (j k : Nat) (h : j ≤ k) : totA l j ≤ totA l k := by
  induction k with
  | zero => rw [show j = 0 by omega]; exact Nat.le_refl _
  | succ k ih =>
    rcases Nat.lt_or_ge j (k + 1) with h1 | h1
    · refine Nat.le_trans (ih (by omega)) ?_
      cases hk : l[k]? with
      | none => unfold totA; rw [List.take_add_one, hk]; simp
      | some b => rw [totA_succ l k b hk]; omega
    · rw [show j = k + 1 by omega]; exact Nat.le_refl _
end Go.Proofs.YtopajmbblemopaaGreatDoor
