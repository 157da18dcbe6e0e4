/-
  Lemmas, joined of the texts K2.
-/
import Derived.Test.YtopajmbblemopaaGreatDoorMB14
import Derived.Test.YtopajmbblemopaaGreatDoorMB4
import Derived.WalkMore
namespace Go.Proofs.YtopajmbblemopaaGreatDoor
set_option linter.unusedVariables false
set_option linter.unusedSimpArgs false
open Go.RowKit Go.Lib Go.Proofs.YtopajmbblemopaaGreatDoorW.PrintWords Go.Proofs.YtopajmbblemopaaGreatDoorW.PrintLast
theorem int_bad (s : ByteArray) (w : World) (h : intL (bsL s) = none) (hs : s.size ≤ 281474976710656) (hG : Gl w) :
    Calls Tryz.prog 104 #[.string s] w fun e w' => e = .returned (.tuple #[.int .i64 0, .int .i64 10]) ∧ Below w.heap.size w w' := by
  by_cases hp : ∃ v, parseIntB 64 (bsL s) = .ok v
  · obtain ⟨v, hv⟩ := hp
    have h2 := parse_range hv
    have hne : itoa v ≠ bsL s := by
      intro e
      unfold intL at h
      rw [hv] at h
      simp only at h
      rw [if_pos e] at h
      cases h
    have e1 : ((str (itoa v)).toList == s.toList) = false := by
      rw [beq_eq_false_iff_ne, bs_toList, bs_toList, bs_of]
      exact hne
    have e2 : ((str (itoa v)).toList != s.toList) = true := by rw [bne, e1]; rfl
    have hp := hd (parse_ok s v w hv hs)
    have hN := hd (fun w' (hb : Below w.heap.size w w') => num_text v w' h2 (gl_below hG hb))
    clear hG h hne hv
    go_enter Tryz.func104, Tryz.ntmps104
    go_wp2_with (first | (go_at_call 124; refine hp.out.mono ?_; rintro e w1 ⟨rfl, hb⟩; have hB := hd hb; clear hb) | (go_at_call 87; refine (hN.out _ hB.out).mono ?_; rintro e w2 ⟨rfl, hb2⟩))
    go_ret2
    exact ⟨rfl, hB.out.trans (Below.mono hb2 hB.out.size)⟩
  · have hp' := hd (parse_bad s w (fun v hv => hp ⟨v, hv⟩) hs hG)
    clear hp h hG
    go_enter Tryz.func104, Tryz.ntmps104
    go_wp2_with (go_at_call 124; refine hp'.out.mono ?_; rintro e w1 ⟨n, N, rfl, hb⟩; have hB := hd hb; clear hb)
    go_ret2
    exact ⟨rfl, hB.out⟩
/-- A row of texts in memory. -/
structure StrsAt (w : World) (A : Option Addr) (l : List ByteArray) : Prop where
  addr : l ≠ [] → ∃ p off, A = some ⟨p, off, none⟩
  cell : ∀ (p off i : Nat) (s : ByteArray), A = some ⟨p, off, none⟩ → l[i]? = some s → w.cell? ⟨p, off + i, none⟩ = some (.string s)
theorem StrsAt.below {w w' : World} {A : Option Addr} {l : List ByteArray} (h : StrsAt w A l) (hb : Below w.heap.size w w') : StrsAt w' A l :=
  ⟨h.addr, fun p off i s hA hi => (Below.cell hb (World.block_lt_of_cell? w _ (h.cell p off i s hA hi))).trans (h.cell p off i s hA hi)⟩
theorem plain_adr {w : World} {a : Addr} {v : Value} (h : w.cell? a = some v) : a = ⟨a.block, a.off, none⟩ := by
  obtain ⟨b, off, sp⟩ := a
  cases sp with
  | none => rfl
  | some x =>
    unfold World.cell? at h
    split at h
    · simp at h
    · cases h
theorem add_plain (b off j : Nat) : (⟨b, off, none⟩ : Addr).add j = ⟨b, off + j, none⟩ := by unfold Addr.add; split <;> simp_all
theorem strs_at {w : World} {A : Option Addr} {l : List ByteArray} (h : Kd.C Kd.string w A l.length l) : StrsAt w A l := by
  obtain ⟨_, _, h3⟩ := h
  have key : ∀ i s, l[i]? = some s → ∃ ad, A = some ad ∧ w.cell? (ad.add i) = some (.string s) := by
    intro i s hi
    have hl := (List.getElem?_eq_some_iff.1 hi).1
    obtain ⟨ad, e, hc⟩ := h3 (by omega)
    obtain ⟨c, _, hR, hcell⟩ := hc i s hi
    obtain rfl : c = [.string s] := hR
    exact ⟨ad, e, by simpa [Kd.string, Kd.scalar] using hcell 0 _ rfl⟩
  refine ⟨fun hne => ?_, fun p off i s hA hi => ?_⟩
  · obtain ⟨s, hs⟩ : ∃ s, l[0]? = some s := by
      cases l with
      | nil => exact absurd rfl hne
      | cons a r => exact ⟨a, rfl⟩
    obtain ⟨ad, e, hc⟩ := key 0 s hs
    have h0 : ad.add 0 = ad := by unfold Addr.add; simp
    rw [h0] at hc
    have := plain_adr hc
    exact ⟨ad.block, ad.off, by rw [e, ← this]⟩
  · obtain ⟨ad, e, hc⟩ := key i s hi
    rw [hA] at e
    injection e with e
    subst e
    rw [add_plain] at hc
    exact hc

/-! ### The builder -/
abbrev Bld (B b : Nat) (l : Txt) (w : World) : Prop := IsBuilderF 145 5 B b (u8s l) w
theorem wstr (B b : Nat) (l : Txt) (s : ByteArray) (w : World) (h : Bld B b l w) (hl : l.length + s.size ≤ 140737488355328) (hB : B ≤ w.heap.size) :
    Calls Tryz.prog 90 #[.pointer (some ⟨b, 0, none⟩), .string s] w fun e w' => e = .returned (.tuple #[.int .i64 s.size, .nilIface]) ∧ Bld B b (l ++ bsL s) w' ∧ Below B w w' := by
  refine (Any.Builder_WriteString_k Tryz.lays166 Tryz.Builder_Extra_166 B b (u8s l) s w h (by rw [u8s_length]; exact hl) hB).mono ?_
  rintro e w' ⟨rfl, h1, h2, _⟩
  refine ⟨rfl, ?_, h2⟩
  rw [strCells_u8s, ← u8s_append] at h1
  exact .inr h1
theorem wbyte (B b : Nat) (l : Txt) (c : UInt8) (w : World) (h : Bld B b l w) (hl : l.length + 1 ≤ 140737488355328) (hB : B ≤ w.heap.size) :
    Calls Tryz.prog 91 #[.pointer (some ⟨b, 0, none⟩), .int .u8 c.toNat] w fun e w' => e = .returned .nilIface ∧ Bld B b (l ++ [c]) w' ∧ Below B w w' := by
  refine (Any.Builder_WriteByte_k Tryz.lays167 Tryz.Builder_Extra_167 B b (u8s l) c.toNat w h (by rw [u8s_length]; exact hl) hB).mono ?_
  rintro e w' ⟨rfl, h1, h2, _⟩
  refine ⟨rfl, ?_, h2⟩
  have e : u8s l ++ [Value.int .u8 c.toNat] = u8s (l ++ [c]) := by rw [u8s_append]; rfl
  rw [e] at h1
  exact .inr h1
theorem wtext (B b : Nat) (l : Txt) (w : World) (h : Bld B b l w) (hB : B ≤ w.heap.size) :
    Calls Tryz.prog 92 #[.pointer (some ⟨b, 0, none⟩)] w fun e w' => e = .returned (.string (str l)) ∧ Below B w w' := by
  refine (Any.Builder_String_any_k Tryz.lays169 Tryz.Builder_Extra_169 B b l w h hB).mono ?_
  rintro e w' ⟨rfl, _, h2, _⟩
  exact ⟨rfl, h2⟩
theorem bld_new (w : World) : Bld w.heap.size w.heap.size [] (w.alloc (.cells #[.pointer none, .slice none 0 0] 145)) :=
  .inl ⟨Nat.le_refl _, .slice none 0 0, heap_alloc_new w _, World.ownsRowF_of (World.ownsRow_nil _ _ _ _), by simp [Value.ownBlock]⟩
theorem Bld.below {B b : Nat} {l : Txt} {w w' : World} (h : Bld B b l w) (hb : Below w.heap.size w w') : Bld B b l w' := by
  have one : ∀ p, BuilderAtF 145 5 B b p (u8s l) w → BuilderAtF 145 5 B b p (u8s l) w' := by
    rintro p ⟨hB, v, hv, hown, hne⟩
    have hlt := (Array.getElem?_eq_some_iff.1 hv).1
    exact ⟨hB, v, (hb.block b hlt).trans hv, hown.kept (row := none) ⟨hb.os, hb.tape, hb.output, hb.size, fun k hk _ => hb.block k hk⟩ (Classical.em _), hne⟩
  exact h.elim (fun x => .inl (one _ x)) (fun x => .inr (one _ x))
theorem wmark (B b : Nat) (l : Txt) (c : UInt8) (n : Int) (hc : n = c.toNat) (w : World) (h : Bld B b l w) (hl : l.length + 1 ≤ 140737488355328) (hB : B ≤ w.heap.size) :
    Calls Tryz.prog 91 #[.pointer (some ⟨b, 0, none⟩), .int .u8 n] w fun e w' => e = .returned .nilIface ∧ Bld B b (l ++ [c]) w' ∧ Below B w w' := by
  subst hc
  exact wbyte B b l c w h hl hB
end Go.Proofs.YtopajmbblemopaaGreatDoor
