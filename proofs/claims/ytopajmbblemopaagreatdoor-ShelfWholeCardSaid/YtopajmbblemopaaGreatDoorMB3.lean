/-
  Lemmas, joined of the texts K0.
-/
import Derived.Lib.ItoaNum
import Derived.Lib.ParseIntB
import Derived.Lib.IndexMore
namespace Go.Proofs.YtopajmbblemopaaGreatDoor
set_option linter.unusedVariables false
set_option linter.unusedSimpArgs false
open Go.Lib
abbrev Txt := List UInt8
def inI64 (v : Int) : Prop := -9223372036854775808 ≤ v ∧ v ≤ 9223372036854775807

/-! ### Numbers -/
theorem digit_nat {d : Nat} (h : d < 10) : (UInt8.ofNat (48 + d)).toNat = 48 + d := by
  rw [UInt8.toNat_ofNat']
  omega
theorem parse_app (M : Nat) : ∀ (l r : Txt) (acc : Nat), parseUintM M acc (l ++ r) = match parseUintM M acc l with | .ok a => parseUintM M a r | e => e
  | [], r, acc => by rw [List.nil_append, parseUintM]
  | c :: l, r, acc => by
    rw [List.cons_append, parseUintM, parseUintM]
    split
    · split
      · rfl
      · split
        · rfl
        · exact parse_app M l r _
    · rfl
theorem dec_small {u : Nat} (h : u < 10) : decDigits u = [UInt8.ofNat (48 + u)] := by rw [decDigits, dif_pos h]
theorem dec_big {u : Nat} (h : ¬ u < 10) : decDigits u = decDigits (u / 10) ++ [UInt8.ofNat (48 + u % 10)] := by rw [decDigits, dif_neg h]
theorem parse_dec (M : Nat) (hM : M ≤ 18446744073709551615) (u : Nat) (h : u ≤ M) : parseUintM M 0 (decDigits u) = .ok u := by
  induction u using Nat.strongRecOn with
  | _ u ih =>
    by_cases hu : u < 10
    · rw [dec_small hu, parseUintM, digit_nat hu, if_pos (by omega), if_neg (by omega), if_neg (by omega), parseUintM]
      congr 1
      omega
    · have hd : u % 10 < 10 := Nat.mod_lt _ (by decide)
      rw [dec_big hu, parse_app, ih (u / 10) (by omega) (by omega)]
      simp only
      rw [parseUintM, digit_nat hd, if_pos (by omega), if_neg (by omega), if_neg (by omega), parseUintM]
      congr 1
      omega
theorem dec_ne (u : Nat) : decDigits u ≠ [] := by
  by_cases hu : u < 10
  · rw [dec_small hu]; simp
  · rw [dec_big hu]; simp
theorem dec_digit (u : Nat) : ∀ c ∈ decDigits u, 48 ≤ c.toNat ∧ c.toNat ≤ 57 := by
  induction u using Nat.strongRecOn with
  | _ u ih =>
    intro c hc
    by_cases hu : u < 10
    · rw [dec_small hu] at hc
      rw [List.mem_singleton.1 hc, digit_nat hu]
      omega
    · rw [dec_big hu] at hc
      have hd : u % 10 < 10 := Nat.mod_lt _ (by decide)
      rcases List.mem_append.1 hc with hc | hc
      · exact ih (u / 10) (by omega) c hc
      · rw [List.mem_singleton.1 hc, digit_nat hd]
        omega
theorem itoa_nat (n : Nat) : itoa (n : Int) = decDigits n := by
  unfold itoa
  rw [if_neg (by omega)]
  rfl
theorem parse_itoa {v : Int} (h : inI64 v) : parseIntB 64 (itoa v) = .ok v := by
  obtain ⟨h0, h1⟩ := h
  unfold itoa
  have e64 : (2 : Nat) ^ 64 - 1 = 18446744073709551615 := by decide
  have e63 : (2 : Nat) ^ (64 - 1) = 9223372036854775808 := by decide
  by_cases hv : v < 0
  · rw [if_pos hv]
    unfold parseIntB
    have hp : parseUintB 64 (decDigits v.natAbs) = .ok v.natAbs := by
      unfold parseUintB
      rw [if_neg (dec_ne _), e64]
      exact parse_dec _ (Nat.le_refl _) _ (by omega)
    simp only [show (45 : UInt8).toNat = 45 from rfl, or_true, if_true, hp, not_true, false_and, if_false, true_and, e63]
    rw [if_neg (by omega)]
    congr 1
    omega
  · rw [if_neg hv]
    have hp : parseUintB 64 (decDigits v.toNat) = .ok v.toNat := by
      unfold parseUintB
      rw [if_neg (dec_ne _), e64]
      exact parse_dec _ (Nat.le_refl _) _ (by omega)
    cases hd : decDigits v.toNat with
    | nil => exact absurd hd (dec_ne _)
    | cons c r =>
      have hc := dec_digit v.toNat c (by rw [hd]; simp)
      rw [hd] at hp
      unfold parseIntB
      have n1 : ¬ c.toNat = 45 := by omega
      have n2 : ¬ c.toNat = 43 := by omega
      simp only [n1, n2, or_self, if_false, hp, not_false_iff, true_and, false_and, e63]
      rw [if_neg (by omega)]
      congr 1
      omega
/-- The number of a text. -/
def intL (s : Txt) : Option Int := match parseIntB 64 s with | .ok v => if itoa v = s then some v else none | _ => none
theorem intL_itoa {v : Int} (h : inI64 v) : intL (itoa v) = some v := by
  unfold intL
  rw [parse_itoa h]
  exact if_pos rfl
theorem parse_range {s : Txt} {v : Int} (h : parseIntB 64 s = .ok v) : inI64 v := by
  unfold parseIntB at h
  have e63 : (2 : Nat) ^ (64 - 1) = 9223372036854775808 := by decide
  split at h
  · cases h
  · simp only at h
    split at h
    · cases h
    · cases h
    · rename_i u _
      rw [e63] at h
      split at h
      · cases h
      · split at h
        · cases h
        · rename_i h1 h2
          injection h with h
          subst h
          unfold inI64
          split
          · rename_i h3
            have : ¬ 9223372036854775808 < u := fun k => h2 ⟨h3, k⟩
            omega
          · rename_i h3
            have : ¬ 9223372036854775808 ≤ u := fun k => h1 ⟨h3, k⟩
            omega
theorem intL_some {s : Txt} {v : Int} (h : intL s = some v) : s = itoa v ∧ inI64 v := by
  unfold intL at h
  split at h
  · rename_i w hw
    split at h
    · rename_i he
      injection h with h
      subst h
      exact ⟨he.symm, parse_range hw⟩
    · cases h
  · cases h
theorem itoa_colon (n : Nat) : (58 : UInt8) ∉ itoa (n : Int) := by
  rw [itoa_nat]
  intro h
  have := (dec_digit n 58 h).2
  simp at this

/-! ### Strands -/
theorem index_colon : ∀ (a b : Txt), (58 : UInt8) ∉ a → index (a ++ 58 :: b) [58] = a.length
  | [], b, _ => by simp [index]
  | c :: a, b, h => by
    have hc : ¬ (58 : UInt8) = c := fun e => h (by simp [e])
    have ih := index_colon a b (fun k => h (by simp [k]))
    rw [List.cons_append, index]
    have hp : ([58] : Txt).isPrefixOf (c :: (a ++ 58 :: b)) = false := by simp [List.isPrefixOf, hc]
    rw [hp, if_neg (by decide), ih, if_neg (by simp)]
    simp
theorem cut_colon (a b : Txt) (h : (58 : UInt8) ∉ a) : cut (a ++ 58 :: b) [58] = (a, b, true) := by
  unfold cut
  rw [index_colon a b h, if_pos (by omega)]
  simp
theorem index_some : ∀ (s : Txt) (i : Nat), index s [58] = i → ∃ b, s = s.take i ++ 58 :: b ∧ i < s.length
  | [], i, h => by simp [index] at h
  | c :: s, i, h => by
    rw [index] at h
    by_cases hc : (58 : UInt8) = c
    · have hp : ([58] : Txt).isPrefixOf (c :: s) = true := by simp [List.isPrefixOf, hc]
      rw [hp, if_pos rfl] at h
      have : i = 0 := by omega
      subst this
      exact ⟨s, by simp [hc], by simp⟩
    · have hp : ([58] : Txt).isPrefixOf (c :: s) = false := by simp [List.isPrefixOf, hc]
      rw [hp, if_neg (by decide)] at h
      split at h
      · omega
      · have hi : index s [58] = ((i - 1 : Nat) : Int) := by
          have := index_ge s [58]
          rename_i hne
          have : index s [58] ≠ -1 := by simpa using hne
          omega
        have h1 : 1 ≤ i := by
          have := index_ge s [58]
          rename_i hne
          have : index s [58] ≠ -1 := by simpa using hne
          omega
        obtain ⟨b, hb, hl⟩ := index_some s (i - 1) hi
        refine ⟨b, ?_, by simp; omega⟩
        obtain ⟨j, rfl⟩ : ∃ j, i = j + 1 := ⟨i - 1, by omega⟩
        simp only [Nat.add_sub_cancel] at hb
        rw [List.take_succ_cons, List.cons_append, ← hb]
theorem cut_some {s a b : Txt} (h : cut s [58] = (a, b, true)) : s = a ++ 58 :: b := by
  unfold cut at h
  split at h
  · rename_i h0
    obtain ⟨i, hi⟩ : ∃ i : Nat, index s [58] = i := ⟨(index s [58]).toNat, by omega⟩
    obtain ⟨c, hc, hl⟩ := index_some s i hi
    rw [hi] at h
    simp only [Int.toNat_natCast, List.length_singleton, Prod.mk.injEq, and_true] at h
    obtain ⟨rfl, rfl⟩ := h
    have hd : s.drop (i + 1) = c := by
      have : s.drop i = 58 :: c := by
        have := List.drop_left' (l₁ := s.take i) (l₂ := 58 :: c) (i := i) (by simp; omega)
        rw [← hc] at this
        exact this
      rw [← List.drop_drop, this]
      rfl
    rw [hd]
    exact hc
  · simp at h
/-- A text and its length. -/
def strandL (x : Txt) : Txt := itoa (x.length : Int) ++ 58 :: (x ++ [44])
def tieL : List Txt → Txt
  | [] => []
  | x :: l => strandL x ++ tieL l
def maxKnot : Nat := 1048576
/-- The strand at the front, and what stands behind it. -/
def firstL (s : Txt) : Option (Txt × Txt) :=
  match intL (cut (s.take maxKnot) [58]).1 with
  | some n => if (cut (s.take maxKnot) [58]).2.2 = true ∧ 0 ≤ n ∧ n < (cut (s.take maxKnot) [58]).2.1.length ∧ (cut (s.take maxKnot) [58]).2.1.getD n.toNat 0 = 44
      then some ((cut (s.take maxKnot) [58]).2.1.take n.toNat, s.drop ((cut (s.take maxKnot) [58]).1.length + 1 + n.toNat + 1)) else none
  | none => none
theorem strand_length (x : Txt) : (strandL x).length = (itoa (x.length : Int)).length + 1 + x.length + 1 := by
  unfold strandL
  simp
  omega
theorem first_strand (x rest : Txt) (h : (strandL x).length ≤ maxKnot) : firstL (strandL x ++ rest) = some (x, rest) := by
  have hl := strand_length x
  have ht : (strandL x ++ rest).take maxKnot = itoa (x.length : Int) ++ 58 :: (x ++ 44 :: rest.take (maxKnot - (strandL x).length)) := by
    rw [List.take_append, List.take_of_length_le h]
    unfold strandL
    simp
  have hx : inI64 (x.length : Int) := by unfold inI64; unfold maxKnot at h; omega
  unfold firstL
  rw [ht, cut_colon _ _ (itoa_colon _)]
  simp only
  rw [intL_itoa hx]
  simp only
  have hg : (x ++ 44 :: rest.take (maxKnot - (strandL x).length)).getD (x.length : Int).toNat 0 = 44 := by simp
  rw [if_pos ⟨trivial, by omega, by simp; omega, hg⟩]
  congr 1
  have hd : (strandL x ++ rest).drop ((itoa (x.length : Int)).length + 1 + x.length + 1) = rest := by
    rw [← hl]
    exact List.drop_left
  rw [Int.toNat_natCast, hd, List.take_left]
theorem first_some {s x rest : Txt} (h : firstL s = some (x, rest)) : s = strandL x ++ rest ∧ (strandL x).length ≤ maxKnot := by
  unfold firstL at h
  obtain ⟨a, b, c, hc⟩ : ∃ a b c, cut (s.take maxKnot) [58] = (a, b, c) := ⟨_, _, _, rfl⟩
  rw [hc] at h
  simp only at h
  split at h
  · rename_i n hn
    split at h
    · rename_i hcond
      obtain ⟨rfl, h0, h1, h2⟩ := hcond
      obtain ⟨rfl, hr⟩ := intL_some hn
      injection h with h
      obtain ⟨rfl, rfl⟩ := Prod.mk.inj h
      have ht := cut_some hc
      obtain ⟨m, rfl⟩ : ∃ m : Nat, n = m := ⟨n.toNat, by omega⟩
      simp only [Int.toNat_natCast] at h2 ⊢
      have hm : m < b.length := by omega
      have hb : b = b.take m ++ 44 :: b.drop (m + 1) := by
        have h3 : b[m] = 44 := by
          rw [List.getD_eq_getElem?_getD, List.getElem?_eq_getElem hm] at h2
          exact h2
        rw [← h3, ← List.drop_eq_getElem_cons hm, List.take_append_drop]
      have hlen : (b.take m).length = m := by simp; omega
      have hst : strandL (b.take m) = itoa (m : Int) ++ 58 :: (b.take m ++ [44]) := by unfold strandL; rw [hlen]
      have hpre : s.take maxKnot = strandL (b.take m) ++ b.drop (m + 1) := by
        rw [ht, hst]
        conv => lhs; rw [hb]
        simp
      have hsl : (strandL (b.take m)).length = (itoa (m : Int)).length + 1 + m + 1 := by rw [strand_length, hlen]
      have hle : (strandL (b.take m)).length ≤ maxKnot := by
        have h5 : (s.take maxKnot).length ≤ maxKnot := by simp; omega
        rw [hpre, List.length_append] at h5
        omega
      refine ⟨?_, hle⟩
      rw [← hsl]
      have h6 : s.take (strandL (b.take m)).length = strandL (b.take m) := by
        have : (s.take maxKnot).take (strandL (b.take m)).length = strandL (b.take m) := by
          rw [hpre]
          exact List.take_left
        rw [List.take_take, Nat.min_eq_left hle] at this
        exact this
      conv => lhs; rw [← List.take_append_drop (strandL (b.take m)).length s, h6]
    · cases h
  · cases h
theorem strand_ne (x : Txt) : strandL x ≠ [] := by
  intro h
  have := strand_length x
  rw [h] at this
  simp at this
/-- The texts that were tied. -/
def untieGo : Nat → Txt → List Txt → Option (List Txt)
  | 0, _, _ => none
  | f + 1, s, acc => if s = [] then some acc else
    match firstL s with
    | none => none
    | some (x, r) => if 4096 ≤ acc.length then none else untieGo f r (acc ++ [x])
def untieL (s : Txt) : Option (List Txt) := if maxKnot < s.length then none else untieGo (s.length + 1) s []
theorem untieGo_tie : ∀ (l acc : List Txt) (f : Nat), (tieL l).length < f → (tieL l).length ≤ maxKnot → acc.length + l.length ≤ 4096 → untieGo f (tieL l) acc = some (acc ++ l)
  | [], acc, f, hf, _, _ => by
    obtain ⟨f, rfl⟩ : ∃ g, f = g + 1 := ⟨f - 1, by omega⟩
    simp [untieGo, tieL]
  | x :: l, acc, f, hf, hk, ha => by
    obtain ⟨f, rfl⟩ : ∃ g, f = g + 1 := ⟨f - 1, by omega⟩
    have e : tieL (x :: l) = strandL x ++ tieL l := rfl
    have hsl := strand_length x
    rw [e, List.length_append] at hf hk
    rw [untieGo, e, if_neg (by intro h; exact strand_ne x (List.append_eq_nil_iff.1 h).1), first_strand x _ (by omega)]
    simp only
    simp only [List.length_cons] at ha
    rw [if_neg (by omega), untieGo_tie l (acc ++ [x]) f (by omega) (by omega) (by simp; omega)]
    simp
theorem untie_tie {l : List Txt} (h : (tieL l).length ≤ maxKnot) (hl : l.length ≤ 4096) : untieL (tieL l) = some l := by
  unfold untieL
  rw [if_neg (by omega), untieGo_tie l [] _ (by omega) h (by simpa using hl)]
  rfl
theorem untieGo_some : ∀ (f : Nat) (s : Txt) (acc l : List Txt), untieGo f s acc = some l → ∃ m, l = acc ++ m ∧ s = tieL m
  | 0, _, _, _, h => by cases h
  | f + 1, s, acc, l, h => by
    rw [untieGo] at h
    split at h
    · rename_i hs
      injection h with h
      subst h hs
      exact ⟨[], by simp, rfl⟩
    · split at h
      · cases h
      · rename_i x r hx
        split at h
        · cases h
        · obtain ⟨m, rfl, hm⟩ := untieGo_some f r _ l h
          obtain ⟨h1, _⟩ := first_some hx
          refine ⟨x :: m, by simp, ?_⟩
          rw [h1, hm]
          rfl
theorem untie_some {s : Txt} {l : List Txt} (h : untieL s = some l) : s = tieL l ∧ s.length ≤ maxKnot := by
  unfold untieL at h
  split at h
  · cases h
  · obtain ⟨m, rfl, hm⟩ := untieGo_some _ _ _ _ h
    exact ⟨hm, by omega⟩

/-! ### Seals -/
def sumGo : Txt → Nat × Nat → Nat × Nat
  | [], p => p
  | x :: s, p => sumGo s ((p.1 + x.toNat) % 65521, (p.2 + (p.1 + x.toNat) % 65521) % 65521)
/-- A text's sum. -/
def sumL (s : Txt) : Nat := (sumGo s (1, 0)).2 * 65536 + (sumGo s (1, 0)).1
def hexD (d : Nat) : UInt8 := if d < 10 then UInt8.ofNat (48 + d) else UInt8.ofNat (87 + d)
def hex8 (n : Nat) : Txt := [hexD (n / 268435456 % 16), hexD (n / 16777216 % 16), hexD (n / 1048576 % 16), hexD (n / 65536 % 16), hexD (n / 4096 % 16), hexD (n / 256 % 16), hexD (n / 16 % 16), hexD (n % 16)]
def sealL (s : Txt) : Txt := s ++ hex8 (sumL s)
def openL (s : Txt) : Option Txt := if s.length < 8 then none else if sealL (s.take (s.length - 8)) = s then some (s.take (s.length - 8)) else none
theorem seal_length (s : Txt) : (sealL s).length = s.length + 8 := by unfold sealL hex8; simp
theorem open_seal (s : Txt) : openL (sealL s) = some s := by
  unfold openL
  rw [seal_length, if_neg (by omega)]
  have : (sealL s).take (s.length + 8 - 8) = s := by
    rw [Nat.add_sub_cancel]
    exact List.take_left
  rw [this, if_pos rfl]
theorem open_some {s t : Txt} (h : openL s = some t) : s = sealL t := by
  unfold openL at h
  split at h
  · cases h
  · split at h
    · rename_i h1
      injection h with h
      subst h
      exact h1.symm
    · cases h

/-! ### Pages -/
def laidL (kind : Txt) (n : Int) (s : Txt) : Txt := strandL (sealL (tieL [kind, itoa n, s]))
def kBase : Txt := [98, 97, 115, 101]
def kRec : Txt := [114, 101, 99]
def maxLoad : Nat := 524288
/-- The page at the front, and what stands behind it. -/
def readL (s : Txt) : Option ((Txt × Int × Txt) × Txt) :=
  match firstL s with
  | none => none
  | some (x, rest) =>
    match openL x with
    | none => none
    | some y =>
      match untieL y with
      | some [k, m, t] => if maxLoad < t.length then none else match intL m with | some n => some ((k, n, t), rest) | none => none
      | _ => none
theorem read_some {s : Txt} {k : Txt} {n : Int} {t rest : Txt} (h : readL s = some ((k, n, t), rest)) : s = laidL k n t ++ rest ∧ t.length ≤ maxLoad ∧ inI64 n := by
  unfold readL at h
  split at h
  · cases h
  · rename_i x r hx
    split at h
    · cases h
    · rename_i y hy
      split at h
      · rename_i k' m t' hu
        split at h
        · cases h
        · split at h
          · rename_i n' hn
            injection h with h
            obtain ⟨h1, rfl⟩ := Prod.mk.inj h
            obtain ⟨rfl, h2⟩ := Prod.mk.inj h1
            obtain ⟨rfl, rfl⟩ := Prod.mk.inj h2
            obtain ⟨e1, _⟩ := first_some hx
            have e2 := open_some hy
            obtain ⟨e3, _⟩ := untie_some hu
            obtain ⟨e4, e5⟩ := intL_some hn
            refine ⟨?_, by omega, e5⟩
            unfold laidL
            rw [e1, e2, e3, e4]
          · cases h
      · cases h
theorem dec_len : ∀ (k u : Nat), u < 10 ^ (k + 1) → (decDigits u).length ≤ k + 1
  | 0, u, h => by
    rw [dec_small (by simpa using h)]
    simp
  | k + 1, u, h => by
    by_cases hu : u < 10
    · rw [dec_small hu]
      simp
    · rw [Nat.pow_succ] at h
      have := dec_len k (u / 10) (by omega)
      rw [dec_big hu]
      simp
      omega
theorem itoa_len {v : Int} (h : inI64 v) : (itoa v).length ≤ 20 := by
  obtain ⟨h0, h1⟩ := h
  have hp : (10 : Nat) ^ (18 + 1) = 10000000000000000000 := by decide
  unfold itoa
  split
  · have := dec_len 18 v.natAbs (by omega)
    simp
    omega
  · have := dec_len 18 v.toNat (by omega)
    omega
theorem read_laid {k : Txt} {n : Int} {t : Txt} (rest : Txt) (hk : k.length ≤ 4) (hn : inI64 n) (ht : t.length ≤ maxLoad) : readL (laidL k n t ++ rest) = some ((k, n, t), rest) := by
  have i1 := itoa_len hn
  have i2 : ∀ m : Nat, m ≤ 1048576 → (itoa (m : Int)).length ≤ 20 := fun m hm => itoa_len (by unfold inI64; omega)
  unfold maxLoad at ht
  have l1 := strand_length k
  have l2 := strand_length (itoa n)
  have l3 := strand_length t
  have j1 := i2 k.length (by omega)
  have j2 := i2 (itoa n).length (by omega)
  have j3 := i2 t.length (by omega)
  have lt : (tieL [k, itoa n, t]).length = (strandL k).length + ((strandL (itoa n)).length + (strandL t).length) := by simp [tieL]
  have l4 := strand_length (sealL (tieL [k, itoa n, t]))
  rw [seal_length] at l4
  have j4 := i2 ((tieL [k, itoa n, t]).length + 8) (by omega)
  unfold readL laidL
  rw [first_strand _ _ (by unfold maxKnot; omega)]
  simp only
  rw [open_seal]
  simp only
  rw [untie_tie (by unfold maxKnot; omega) (by simp)]
  simp only
  rw [if_neg (by unfold maxLoad; omega), intL_itoa hn]
end Go.Proofs.YtopajmbblemopaaGreatDoor
