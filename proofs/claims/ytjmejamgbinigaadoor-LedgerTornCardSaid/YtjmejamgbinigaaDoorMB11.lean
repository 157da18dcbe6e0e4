/-
  Lemmas, joined of the texts K2 K3.
-/
import Derived.Test.YtjmejamgbinigaaDoorMB10
import Derived.Test.YtjmejamgbinigaaDoorMB4
import Derived.WalkMore
namespace Go.Proofs.YtjmejamgbinigaaDoor
set_option linter.unusedVariables false
set_option linter.unusedSimpArgs false
open Go.RowKit Go.Lib Go.Proofs.YtjmejamgbinigaaDoorW.PrintWords Go.Proofs.YtjmejamgbinigaaDoorW.PrintLast
theorem int_bad (s : ByteArray) (w : World) (h : intL (bsL s) = none) (hs : s.size ≤ 281474976710656) (hG : Gl w) :
    Calls Tryd.prog 53 #[.string s] w fun e w' => e = .returned (.tuple #[.int .i64 0, .int .i64 10]) ∧ Below w.heap.size w w' := by
  by_cases hp : ∃ v, parseIntB 64 (bsL s) = .ok v
  · obtain ⟨v, hv⟩ := hp
    have h2 := parse_range hv
    have hne : itoa v ≠ bsL s := by
      intro e
      unfold intL at h
      rw [hv] at h
      simp only at h
      rw [if_pos e] at h
      cases h
    have e1 : ((str (itoa v)).toList == s.toList) = false := by
      rw [beq_eq_false_iff_ne, bs_toList, bs_toList, bs_of]
      exact hne
    have e2 : ((str (itoa v)).toList != s.toList) = true := by rw [bne, e1]; rfl
    have hp := hd (parse_ok s v w hv hs)
    have hN := hd (fun w' (hb : Below w.heap.size w w') => num_text v w' h2 (gl_below hG hb))
    clear hG h hne hv
    go_enter Tryd.func53, Tryd.ntmps53
    go_wp2_with (first | (go_at_call 60; refine hp.out.mono ?_; rintro e w1 ⟨rfl, hb⟩; have hB := hd hb; clear hb) | (go_at_call 46; refine (hN.out _ hB.out).mono ?_; rintro e w2 ⟨rfl, hb2⟩))
    go_ret2
    exact ⟨rfl, hB.out.trans (Below.mono hb2 hB.out.size)⟩
  · have hp' := hd (parse_bad s w (fun v hv => hp ⟨v, hv⟩) hs hG)
    clear hp h hG
    go_enter Tryd.func53, Tryd.ntmps53
    go_wp2_with (go_at_call 60; refine hp'.out.mono ?_; rintro e w1 ⟨n, N, rfl, hb⟩; have hB := hd hb; clear hb)
    go_ret2
    exact ⟨rfl, hB.out⟩
/-- A row of texts in memory. -/
structure StrsAt (w : World) (A : Option Addr) (l : List ByteArray) : Prop where
  addr : l ≠ [] → ∃ p off, A = some ⟨p, off, none⟩
  cell : ∀ (p off i : Nat) (s : ByteArray), A = some ⟨p, off, none⟩ → l[i]? = some s → w.cell? ⟨p, off + i, none⟩ = some (.string s)
theorem StrsAt.below {w w' : World} {A : Option Addr} {l : List ByteArray} (h : StrsAt w A l) (hb : Below w.heap.size w w') : StrsAt w' A l :=
  ⟨h.addr, fun p off i s hA hi => (Below.cell hb (World.block_lt_of_cell? w _ (h.cell p off i s hA hi))).trans (h.cell p off i s hA hi)⟩
theorem plain_adr {w : World} {a : Addr} {v : Value} (h : w.cell? a = some v) : a = ⟨a.block, a.off, none⟩ := by
  obtain ⟨b, off, sp⟩ := a
  cases sp with
  | none => rfl
  | some x =>
    unfold World.cell? at h
    split at h
    · simp at h
    · cases h
theorem add_plain (b off j : Nat) : (⟨b, off, none⟩ : Addr).add j = ⟨b, off + j, none⟩ := by unfold Addr.add; split <;> simp_all
theorem strs_at {w : World} {A : Option Addr} {l : List ByteArray} (h : Kd.C Kd.string w A l.length l) : StrsAt w A l := by
  obtain ⟨_, _, h3⟩ := h
  have key : ∀ i s, l[i]? = some s → ∃ ad, A = some ad ∧ w.cell? (ad.add i) = some (.string s) := by
    intro i s hi
    have hl := (List.getElem?_eq_some_iff.1 hi).1
    obtain ⟨ad, e, hc⟩ := h3 (by omega)
    obtain ⟨c, _, hR, hcell⟩ := hc i s hi
    obtain rfl : c = [.string s] := hR
    exact ⟨ad, e, by simpa [Kd.string, Kd.scalar] using hcell 0 _ rfl⟩
  refine ⟨fun hne => ?_, fun p off i s hA hi => ?_⟩
  · obtain ⟨s, hs⟩ : ∃ s, l[0]? = some s := by
      cases l with
      | nil => exact absurd rfl hne
      | cons a r => exact ⟨a, rfl⟩
    obtain ⟨ad, e, hc⟩ := key 0 s hs
    have h0 : ad.add 0 = ad := by unfold Addr.add; simp
    rw [h0] at hc
    have := plain_adr hc
    exact ⟨ad.block, ad.off, by rw [e, ← this]⟩
  · obtain ⟨ad, e, hc⟩ := key i s hi
    rw [hA] at e
    injection e with e
    subst e
    rw [add_plain] at hc
    exact hc

/-! ### The builder -/
abbrev Bld (B b : Nat) (l : Txt) (w : World) : Prop := IsBuilderF 96 5 B b (u8s l) w
theorem wstr (B b : Nat) (l : Txt) (s : ByteArray) (w : World) (h : Bld B b l w) (hl : l.length + s.size ≤ 140737488355328) (hB : B ≤ w.heap.size) :
    Calls Tryd.prog 54 #[.pointer (some ⟨b, 0, none⟩), .string s] w fun e w' => e = .returned (.tuple #[.int .i64 s.size, .nilIface]) ∧ Bld B b (l ++ bsL s) w' ∧ Below B w w' := by
  refine (Any.Builder_WriteString_k Tryd.lays166 Tryd.Builder_Extra_166 B b (u8s l) s w h (by rw [u8s_length]; exact hl) hB).mono ?_
  rintro e w' ⟨rfl, h1, h2, _⟩
  refine ⟨rfl, ?_, h2⟩
  rw [strCells_u8s, ← u8s_append] at h1
  exact .inr h1
theorem wbyte (B b : Nat) (l : Txt) (c : UInt8) (w : World) (h : Bld B b l w) (hl : l.length + 1 ≤ 140737488355328) (hB : B ≤ w.heap.size) :
    Calls Tryd.prog 55 #[.pointer (some ⟨b, 0, none⟩), .int .u8 c.toNat] w fun e w' => e = .returned .nilIface ∧ Bld B b (l ++ [c]) w' ∧ Below B w w' := by
  refine (Any.Builder_WriteByte_k Tryd.lays167 Tryd.Builder_Extra_167 B b (u8s l) c.toNat w h (by rw [u8s_length]; exact hl) hB).mono ?_
  rintro e w' ⟨rfl, h1, h2, _⟩
  refine ⟨rfl, ?_, h2⟩
  have e : u8s l ++ [Value.int .u8 c.toNat] = u8s (l ++ [c]) := by rw [u8s_append]; rfl
  rw [e] at h1
  exact .inr h1
theorem wtext (B b : Nat) (l : Txt) (w : World) (h : Bld B b l w) (hB : B ≤ w.heap.size) :
    Calls Tryd.prog 56 #[.pointer (some ⟨b, 0, none⟩)] w fun e w' => e = .returned (.string (str l)) ∧ Below B w w' := by
  refine (Any.Builder_String_any_k Tryd.lays169 Tryd.Builder_Extra_169 B b l w h hB).mono ?_
  rintro e w' ⟨rfl, _, h2, _⟩
  exact ⟨rfl, h2⟩
theorem bld_new (w : World) : Bld w.heap.size w.heap.size [] (w.alloc (.cells #[.pointer none, .slice none 0 0] 96)) :=
  .inl ⟨Nat.le_refl _, .slice none 0 0, heap_alloc_new w _, World.ownsRowF_of (World.ownsRow_nil _ _ _ _), by simp [Value.ownBlock]⟩
theorem Bld.below {B b : Nat} {l : Txt} {w w' : World} (h : Bld B b l w) (hb : Below w.heap.size w w') : Bld B b l w' := by
  have one : ∀ p, BuilderAtF 96 5 B b p (u8s l) w → BuilderAtF 96 5 B b p (u8s l) w' := by
    rintro p ⟨hB, v, hv, hown, hne⟩
    have hlt := (Array.getElem?_eq_some_iff.1 hv).1
    exact ⟨hB, v, (hb.block b hlt).trans hv, hown.kept (row := none) ⟨hb.os, hb.tape, hb.output, hb.size, fun k hk _ => hb.block k hk⟩ (Classical.em _), hne⟩
  exact h.elim (fun x => .inl (one _ x)) (fun x => .inr (one _ x))
theorem wmark (B b : Nat) (l : Txt) (c : UInt8) (n : Int) (hc : n = c.toNat) (w : World) (h : Bld B b l w) (hl : l.length + 1 ≤ 140737488355328) (hB : B ≤ w.heap.size) :
    Calls Tryd.prog 55 #[.pointer (some ⟨b, 0, none⟩), .int .u8 n] w fun e w' => e = .returned .nilIface ∧ Bld B b (l ++ [c]) w' ∧ Below B w w' := by
  subst hc
  exact wbyte B b l c w h hl hB
end Go.Proofs.YtjmejamgbinigaaDoor
namespace Go.Proofs.YtjmejamgbinigaaDoor
set_option linter.unusedVariables false
set_option linter.unusedSimpArgs false
open Go.RowKit Go.Lib Go.Proofs.YtjmejamgbinigaaDoorW.PrintWords Go.Proofs.YtjmejamgbinigaaDoorW.PrintLast
theorem tie_app : ∀ (l m : List Txt), tieL (l ++ m) = tieL l ++ tieL m
  | [], m => rfl
  | x :: l, m => by
    show strandL x ++ tieL (l ++ m) = (strandL x ++ tieL l) ++ tieL m
    rw [tie_app l m, List.append_assoc]
theorem tie_le {l : List Txt} (k : Nat) : (tieL (l.take k)).length ≤ (tieL l).length := by
  have h := congrArg List.length (tie_app (l.take k) (l.drop k))
  rw [List.take_append_drop, List.length_append] at h
  omega
theorem take_snoc {α : Type} {l : List α} {k : Nat} (h : k < l.length) : l.take (k + 1) = l.take k ++ [l[k]] := by
  rw [List.take_add_one, List.getElem?_eq_getElem h]
  rfl
/-- What Tie has written when k of the texts are tied. -/
def tied (l : List ByteArray) (k : Nat) : Txt := tieL ((l.take k).map bsL)
theorem tied_succ {l : List ByteArray} {k : Nat} (h : k < l.length) : tied l (k + 1) = ((((tied l k ++ bsL (str (itoa (l[k].size : Int)))) ++ [58]) ++ bsL l[k]) ++ [44]) := by
  unfold tied
  rw [take_snoc h, List.map_append, tie_app]
  show _ ++ (strandL (bsL l[k]) ++ []) = _
  unfold strandL
  rw [List.append_nil, bs_size, bs_of]
  simp only [List.append_assoc, List.cons_append, List.nil_append]
theorem tied_le (l : List ByteArray) (k : Nat) : (tied l k).length ≤ (tieL (l.map bsL)).length := by
  unfold tied
  rw [List.map_take]
  exact tie_le k
set_option maxHeartbeats 1600000 in
theorem tie_walk (A : Option Addr) (l : List ByteArray) (cap : Nat) (w : World) (hA : StrsAt w A l) (hsz : (tieL (l.map bsL)).length ≤ 140737488351232) (hG : Gl w) :
    Calls Tryd.prog 44 #[.slice A l.length cap] w fun e w' => e = .returned (.string (str (tieL (l.map bsL)))) ∧ Below w.heap.size w w' := by
  have HA := hd hA
  have HG := hd hG
  have HS := hd hsz
  clear hA hG hsz
  have hlen : l.length ≤ 140737488351232 := by
    have h1 : ∀ m : List Txt, m.length ≤ (tieL m).length := by
      intro m
      induction m with
      | nil => simp
      | cons x r ih =>
        have := strand_length x
        show r.length + 1 ≤ (strandL x ++ tieL r).length
        rw [List.length_append]
        omega
    have := h1 (l.map bsL)
    rw [List.length_map] at this
    have := HS.out
    omega
  have HL := hd hlen
  clear hlen
  go_enter Tryd.func44, Tryd.ntmps44
  go_wp2_with (fail)
  have hB0 := hd (bld_new w)
  have hD0 := hd ((Below.refl w.heap.size w).alloc (Nat.le_refl _) (.cells #[.pointer none, .slice none 0 0] 96))
  generalize w.alloc (.cells #[.pointer none, .slice none 0 0] 96) = W at *
  go_loopw [8] (fun i wr => ∃ k : Nat, k ≤ l.length ∧ i = .int .i64 k ∧ Hd (Bld w.heap.size w.heap.size (tied l k) wr) ∧ Hd (Below w.heap.size w wr)) (fun i _ => l.length - (RowKit.intOf i).toNat)
  case atStart => exact ⟨0, by omega, rfl, hB0, hD0⟩
  case round =>
    obtain ⟨k, hk, rfl, HB, HD⟩ := hrel
    have hll := HL.out
    by_cases hlt : k < l.length
    · obtain ⟨p, off, rfl⟩ := HA.out.addr (by intro h; rw [h] at hlt; simp at hlt)
      have c0 := (HA.out.below HD.out).cell p off k l[k] rfl (List.getElem?_eq_getElem hlt)
      have hs1 := tied_le l (k + 1)
      rw [tied_succ hlt] at hs1
      have hs2 := HS.out
      simp only [List.length_append, List.length_cons, List.length_nil] at hs1
      have z1 := bs_size (str (itoa (l[k].size : Int)))
      have z2 := bs_size l[k]
      have hi : inI64 (l[k].size : Int) := by unfold inI64; omega
      have H1 := hd (fun w' (hb : Below w.heap.size w w') => num_text (l[k].size : Int) w' hi (gl_below HG.out hb))
      obtain ⟨t, ht⟩ : ∃ t, str (itoa (l[k].size : Int)) = t := ⟨_, rfl⟩
      have HT := hd ht
      rw [ht] at H1 z1 hs1
      obtain ⟨x, hx⟩ : ∃ x, l[k] = x := ⟨_, rfl⟩
      have HX := hd hx
      have hxs : (l[k].size : Int) = (x.size : Int) := by rw [hx]
      rw [hx] at c0 z2 hs1 H1
      have H2 := hd (fun w' (hb : Below w.heap.size w w') (h : Bld w.heap.size w.heap.size (tied l k) w') => wstr w.heap.size w.heap.size (tied l k) t w' h (by omega) hb.size)
      have H3 := hd (fun w' (hb : Below w.heap.size w w') (h : Bld w.heap.size w.heap.size (tied l k ++ bsL t) w') => wmark w.heap.size w.heap.size (tied l k ++ bsL t) 58 58 rfl w' h (by simp only [List.length_append]; omega) hb.size)
      have H4 := hd (fun w' (hb : Below w.heap.size w w') (h : Bld w.heap.size w.heap.size (tied l k ++ bsL t ++ [58]) w') => wstr w.heap.size w.heap.size (tied l k ++ bsL t ++ [58]) x w' h (by simp only [List.length_append, List.length_cons, List.length_nil]; omega) hb.size)
      have H5 := hd (fun w' (hb : Below w.heap.size w w') (h : Bld w.heap.size w.heap.size (tied l k ++ bsL t ++ [58] ++ bsL x) w') => wmark w.heap.size w.heap.size (tied l k ++ bsL t ++ [58] ++ bsL x) 44 44 rfl w' h (by simp only [List.length_append, List.length_cons, List.length_nil]; omega) hb.size)
      have hE := hd (tied_succ hlt)
      rw [ht, hx] at hE
      clear hs1 hs2 z1 z2 hi ht hx hxs hB0 hD0
      go_wp2_with (first | (go_at_call 46; refine (H1.out _ HD.out).mono ?_; rintro e w1 ⟨rfl, q⟩; have D1 := hd (HD.out.trans (Below.mono q HD.out.size)); have B1 := hd (HB.out.below q); clear q) | (go_at_call_of 54 (Value.string t); refine (H2.out _ D1.out B1.out).mono ?_; rintro e w2 ⟨rfl, q1, q2⟩; have D2 := hd (D1.out.trans q2); have B2 := hd q1; clear q1 q2) | (go_at_call_of 55 (Value.int .u8 58); refine (H3.out _ D2.out B2.out).mono ?_; rintro e w3 ⟨rfl, q1, q2⟩; have D3 := hd (D2.out.trans q2); have B3 := hd q1; clear q1 q2) | (go_at_call_of 54 (Value.string x); refine (H4.out _ D3.out B3.out).mono ?_; rintro e w4 ⟨rfl, q1, q2⟩; have D4 := hd (D3.out.trans q2); have B4 := hd q1; clear q1 q2) | (go_at_call_of 55 (Value.int .u8 44); refine (H5.out _ D4.out B4.out).mono ?_; rintro e w5 ⟨rfl, q1, q2⟩; have D5 := hd (D4.out.trans q2); have B5 := hd q1; clear q1 q2))
      go_roundw
      case rel => exact ⟨k + 1, by omega, by go_num, hd (by rw [hE.out]; exact B5.out), D5⟩
      case measure => simp [RowKit.intOf]; omega
    · have hk' : k = l.length := by omega
      subst hk'
      have hT := hd (wtext w.heap.size w.heap.size (tied l l.length) wr HB.out HD.out.size)
      have e : tied l l.length = tieL (l.map bsL) := by unfold tied; rw [List.take_length]
      rw [e] at hT
      clear e
      go_wp2_with (go_at_call 56; refine hT.out.mono ?_; rintro e w1 ⟨rfl, q⟩; have D1 := hd (HD.out.trans q); clear q)
      go_ret
      exact ⟨rfl, D1.out⟩
end Go.Proofs.YtjmejamgbinigaaDoor
