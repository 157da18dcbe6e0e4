/-
  Lemmas, joined of the texts PR0.
-/
import Derived.Test.YtjmejamgbinigaaGreatDoorMB3
namespace Go.Proofs.YtjmejamgbinigaaGreatDoor
set_option linter.unusedVariables false
set_option linter.unusedSimpArgs false
open Go.Lib
def valD : Txt → Nat → Nat
  | [], n => n
  | c :: l, n => valD l (10 * n + (c.toNat - 48))
def Dig (c : UInt8) : Prop := 48 ≤ c.toNat ∧ c.toNat ≤ 57
theorem valD_app : ∀ (a b : Txt) (n : Nat), valD (a ++ b) n = valD b (valD a n)
  | [], _, _ => rfl
  | _ :: a, b, _ => valD_app a b _
theorem valD_lt : ∀ (l : Txt) (n : Nat), (∀ c ∈ l, Dig c) → valD l n < (n + 1) * 10 ^ l.length
  | [], n, _ => by simp [valD]
  | c :: l, n, h => by
    have h1 := h c (by simp)
    have := valD_lt l (10 * n + (c.toNat - 48)) (fun x hx => h x (by simp [hx]))
    unfold Dig at h1
    rw [valD, List.length_cons, Nat.pow_succ]
    have h2 : (10 * n + (c.toNat - 48) + 1) * 10 ^ l.length ≤ ((n + 1) * 10) * 10 ^ l.length := Nat.mul_le_mul_right _ (by omega)
    have h3 : ((n + 1) * 10) * 10 ^ l.length = (n + 1) * (10 ^ l.length * 10) := by rw [Nat.mul_assoc, Nat.mul_comm 10]
    omega
theorem dig_back {c : UInt8} (h : Dig c) : UInt8.ofNat (48 + (c.toNat - 48)) = c := by
  unfold Dig at h
  rw [← UInt8.toNat_inj, UInt8.toNat_ofNat']
  have := c.toNat_lt
  omega
theorem dec_val : ∀ (k : Nat) (D : Txt), D.length = k + 1 → (∀ c ∈ D, Dig c) → (D.head? ≠ some 48 ∨ D.length = 1) → decDigits (valD D 0) = D := by
  intro k
  induction k with
  | zero =>
    intro D h hd _
    obtain ⟨c, rfl⟩ : ∃ c, D = [c] := List.length_eq_one_iff.1 h
    have hc := hd c (by simp)
    have hc' := hc
    unfold Dig at hc'
    show decDigits (10 * 0 + (c.toNat - 48)) = [c]
    rw [dec_small (by omega), Nat.mul_zero, Nat.zero_add, dig_back hc]
  | succ k ih =>
    intro D h hd hh
    have hne : D ≠ [] := by intro q; rw [q] at h; simp at h
    obtain ⟨D', c, rfl⟩ : ∃ D' c, D = D' ++ [c] := ⟨D.dropLast, D.getLast hne, (List.dropLast_concat_getLast hne).symm⟩
    have hl : D'.length = k + 1 := by simpa using h
    have hc := hd c (by simp)
    have hc' := hc
    unfold Dig at hc'
    have hh1 : D'.head? ≠ some 48 := by
      rcases hh with hh | hh
      · intro q
        apply hh
        rw [List.head?_append, q]
        rfl
      · omega
    have e := ih D' hl (fun x hx => hd x (by simp [hx])) (.inl hh1)
    have hv : valD D' 0 ≠ 0 := by
      intro q
      rw [q, dec_small (by decide)] at e
      apply hh1
      rw [← e]
      rfl
    rw [valD_app]
    show decDigits (10 * valD D' 0 + (c.toNat - 48)) = _
    rw [dec_big (by omega), show (10 * valD D' 0 + (c.toNat - 48)) / 10 = valD D' 0 by omega, show (10 * valD D' 0 + (c.toNat - 48)) % 10 = c.toNat - 48 by omega, e, dig_back hc]
theorem val_dec (u : Nat) : valD (decDigits u) 0 = u := by
  induction u using Nat.strongRecOn with
  | _ u ih =>
    by_cases hu : u < 10
    · rw [dec_small hu, valD, valD, digit_nat hu]
      omega
    · have hd : u % 10 < 10 := Nat.mod_lt _ (by decide)
      rw [dec_big hu, valD_app, ih (u / 10) (by omega), valD, valD, digit_nat hd]
      omega
theorem dec_front (u : Nat) : u ≠ 0 → (decDigits u).head? ≠ some 48 := by
  induction u using Nat.strongRecOn with
  | _ u ih =>
    intro h0
    by_cases hu : u < 10
    · rw [dec_small hu]
      intro q
      have q2 : UInt8.ofNat (48 + u) = 48 := by simpa using q
      have q3 := congrArg UInt8.toNat q2
      rw [digit_nat hu] at q3
      have : (48 : UInt8).toNat = 48 := rfl
      omega
    · have := ih (u / 10) (by omega) (by omega)
      rw [dec_big hu, List.head?_append]
      cases hq : (decDigits (u / 10)).head? with
      | none => rw [List.head?_eq_none_iff] at hq; exact absurd hq (dec_ne _)
      | some x => rw [hq] at this; exact this
theorem dec_front' (u : Nat) : ¬ (1 < (decDigits u).length ∧ (decDigits u).getD 0 0 = 48) := by
  rintro ⟨h1, h2⟩
  by_cases h : u = 0
  · rw [h, dec_small (by decide)] at h1
    simp at h1
  · have := dec_front u h
    cases hq : decDigits u with
    | nil => exact dec_ne _ hq
    | cons c l =>
      rw [hq] at this h2
      apply this
      show some c = some 48
      rw [show c = 48 from h2]
theorem dig_split {D T D' T' : Txt} (h : D ++ T = D' ++ 58 :: T') (h1 : ∀ c ∈ D, Dig c) (h2 : ∀ c ∈ D', Dig c) (hT : T = [] ∨ D.length = 8 ∨ ∃ c U, T = c :: U ∧ ¬ Dig c) (hD : D'.length ≤ 7) : D = D' ∧ T = 58 :: T' := by
  rcases List.append_eq_append_iff.1 h with ⟨a, e1, e2⟩ | ⟨a, e1, e2⟩
  · cases a with
    | nil => exact ⟨by rw [e1, List.append_nil], by rw [e2, List.nil_append]⟩
    | cons x a =>
      exfalso
      rcases hT with hT | hT | ⟨c, U, hT, hc⟩
      · rw [hT] at e2
        cases e2
      · rw [e1, List.length_append, List.length_cons] at hD
        omega
      · rw [hT] at e2
        injection e2 with e2 _
        exact hc (e2 ▸ h2 x (by rw [e1]; simp))
  · cases a with
    | nil => exact ⟨by rw [e1, List.append_nil], by rw [e2, List.nil_append]⟩
    | cons x a =>
      exfalso
      injection e2 with e2 _
      have := (h1 x (by rw [e1]; simp)).2
      rw [← e2] at this
      exact absurd this (by decide)
theorem dig_take : ∀ (f : Nat) (s : Txt), ∃ D T, s = D ++ T ∧ D.length ≤ f ∧ (∀ c ∈ D, Dig c) ∧ (T = [] ∨ D.length = f ∨ ∃ c U, T = c :: U ∧ ¬ Dig c)
  | 0, s => ⟨[], s, rfl, by simp, by simp, .inr (.inl rfl)⟩
  | f + 1, [] => ⟨[], [], rfl, by simp, by simp, .inl rfl⟩
  | f + 1, c :: s => by
    by_cases hc : Dig c
    · obtain ⟨D, T, e, h1, h2, h3⟩ := dig_take f s
      refine ⟨c :: D, T, by rw [e]; rfl, by simp; omega, fun x hx => ?_, ?_⟩
      · rcases List.mem_cons.1 hx with rfl | hx
        · exact hc
        · exact h2 x hx
      · rcases h3 with h3 | h3 | h3
        · exact .inl h3
        · exact .inr (.inl (by simp [h3]))
        · exact .inr (.inr h3)
    · exact ⟨[], c :: s, rfl, by simp, by simp, .inr (.inr ⟨c, s, rfl, hc⟩)⟩
theorem dec_dig (u : Nat) : ∀ c ∈ decDigits u, Dig c := dec_digit u
/-- What the reference asks of a strand's front: its digits, its number, its colon, its comma. -/
structure FOkL (B : Txt) (n k : Nat) : Prop where
  pos : 0 < k
  lt : k < B.length
  colon : B.getD k 0 = 58
  zero : ¬ (1 < k ∧ B.getD 0 0 = 48)
  fit : k + 2 + n ≤ B.length
  max : k + 2 + n ≤ 1048576
  comma : B.getD (k + 1 + n) 0 = 44
theorem get_drop (B : Txt) (k : Nat) (c : UInt8) (h : k < B.length) (hc : B.getD k 0 = c) : B.drop k = c :: B.drop (k + 1) := by
  rw [List.getD_eq_getElem?_getD, List.getElem?_eq_getElem h] at hc
  rw [List.drop_eq_getElem_cons h]
  congr 1
theorem fok_first {D T : Txt} (h2 : ∀ c ∈ D, Dig c) (h : FOkL (D ++ T) (valD D 0) D.length) :
    firstL (D ++ T) = some (((D ++ T).drop (D.length + 1)).take (valD D 0), (D ++ T).drop (D.length + 2 + valD D 0)) := by
  obtain ⟨p, lt, c, z, f, m, cm⟩ := h
  obtain ⟨k, hk⟩ : ∃ k, D.length = k + 1 := ⟨D.length - 1, by omega⟩
  have hh : D.head? ≠ some 48 ∨ D.length = 1 := by
    by_cases h1 : D.length = 1
    · exact .inr h1
    · refine .inl fun q => z ⟨by omega, ?_⟩
      cases D with
      | nil => simp at p
      | cons x D =>
        have : x = 48 := by simpa using q
        rw [this]
        rfl
  have hd := dec_val k D hk h2 hh
  obtain ⟨v, hv⟩ : ∃ v, valD D 0 = v := ⟨_, rfl⟩
  rw [hv] at f m cm hd ⊢
  have e1 := get_drop _ _ _ lt c
  rw [List.drop_left] at e1
  have hlt2 : D.length + 1 + v < (D ++ T).length := by omega
  have e2 := get_drop _ _ _ hlt2 cm
  have e3 : (D ++ T).drop (D.length + 1) = ((D ++ T).drop (D.length + 1)).take v ++ 44 :: (D ++ T).drop (D.length + 2 + v) := by
    have : ((D ++ T).drop (D.length + 1)).drop v = 44 :: (D ++ T).drop (D.length + 2 + v) := by
      rw [List.drop_drop, e2, show D.length + 1 + v + 1 = D.length + 2 + v by omega]
    rw [← this, List.take_append_drop]
  have hlen : (((D ++ T).drop (D.length + 1)).take v).length = v := by
    rw [List.length_take, List.length_drop]
    omega
  generalize hx : ((D ++ T).drop (D.length + 1)).take v = x at *
  generalize hr : (D ++ T).drop (D.length + 2 + v) = r at *
  have e4 : D ++ T = strandL x ++ r := by
    unfold strandL
    rw [hlen, itoa_nat, hd, e1, e3]
    simp
  rw [e4]
  refine first_strand x r ?_
  have := strand_length x
  rw [hlen, itoa_nat, hd] at this
  unfold maxKnot
  omega
theorem first_fok {D T x r : Txt} (h1 : ∀ c ∈ D, Dig c) (hT : T = [] ∨ D.length = 8 ∨ ∃ c U, T = c :: U ∧ ¬ Dig c) (h : firstL (D ++ T) = some (x, r)) : FOkL (D ++ T) (valD D 0) D.length := by
  obtain ⟨e, hm⟩ := first_some h
  have hl := strand_length x
  unfold maxKnot at hm
  have e' : D ++ T = decDigits x.length ++ 58 :: (x ++ [44] ++ r) := by
    rw [e]
    unfold strandL
    rw [itoa_nat]
    simp
  have hlt : x.length < 10 ^ (6 + 1) := by omega
  obtain ⟨rfl, rfl⟩ := dig_split e' h1 (dec_dig _) hT (dec_len 6 _ hlt)
  rw [itoa_nat] at hl
  have hpos : 0 < (decDigits x.length).length := List.length_pos_iff.2 (dec_ne _)
  rw [val_dec]
  refine ⟨hpos, ?_, ?_, ?_, ?_, by omega, ?_⟩
  · simp
  · simp [List.getD_eq_getElem?_getD]
  · rintro ⟨q1, q2⟩
    refine dec_front' x.length ⟨q1, ?_⟩
    rw [List.getD_eq_getElem?_getD, List.getElem?_append_left (by omega)] at q2
    rw [List.getD_eq_getElem?_getD]
    exact q2
  · simp
    omega
  · rw [List.getD_eq_getElem?_getD, List.getElem?_append_right (by omega), show (decDigits x.length).length + 1 + x.length - (decDigits x.length).length = x.length + 1 by omega, List.getElem?_cons_succ, List.append_assoc, List.getElem?_append_right (by omega)]
    simp
end Go.Proofs.YtjmejamgbinigaaGreatDoor
