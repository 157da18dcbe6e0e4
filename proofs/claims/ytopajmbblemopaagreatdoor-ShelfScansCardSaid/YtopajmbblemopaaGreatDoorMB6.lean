/-
  Lemmas, joined of the texts S0 S1.
-/
import Derived.Test.YtopajmbblemopaaGreatDoorMB3
import Derived.Test.YtopajmbblemopaaGreatDoorMB1
namespace Go.Proofs.YtopajmbblemopaaGreatDoor
set_option linter.unusedVariables false
set_option linter.unusedSimpArgs false
open Go.Lib
structure Chn where
  key : Txt
  gone : Bool
  val : Txt
/-- May a change be? -/
def isC (c : Chn) : Bool := decide (1 ≤ c.key.length) && (decide (c.key.length ≤ 128) && (decide (c.val.length ≤ 262144) && (!c.gone || c.val.isEmpty)))
def flagT (b : Bool) : Txt := if b = true then [49] else [48]
def chT (c : Chn) : Txt := tieL [c.key, flagT c.gone, c.val]
/-- Changes' text. -/
def textC (l : List Chn) : Txt := tieL (l.map chT)
def readOne (x : Txt) : Option Chn :=
  match untieL x with
  | some [k, g, v] => if (g = [48] ∨ g = [49]) ∧ isC ⟨k, g == [49], v⟩ = true then some ⟨k, g == [49], v⟩ else none
  | _ => none
def readAll : List Txt → Option (List Chn)
  | [] => some []
  | x :: l => match readOne x with | none => none | some c => match readAll l with | none => none | some r => some (c :: r)
/-- The changes of a text. -/
def readC (s : Txt) : Option (List Chn) := match untieL s with | none => none | some l => readAll l
theorem flag_back (b : Bool) : (flagT b == ([49] : Txt)) = b := by cases b <;> rfl
theorem flag_ok (b : Bool) : flagT b = [48] ∨ flagT b = [49] := by cases b <;> simp [flagT]
theorem flag_len (b : Bool) : (flagT b).length = 1 := by cases b <;> rfl
theorem isC_iff (c : Chn) : isC c = true ↔ 1 ≤ c.key.length ∧ c.key.length ≤ 128 ∧ c.val.length ≤ 262144 ∧ (c.gone = false ∨ c.val = []) := by
  unfold isC
  simp
theorem chT_len {c : Chn} (h : isC c = true) : (chT c).length ≤ c.key.length + c.val.length + 70 := by
  obtain ⟨h1, h2, h3, h4⟩ := (isC_iff c).1 h
  have i2 : ∀ m : Nat, m ≤ 1048576 → (itoa (m : Int)).length ≤ 20 := fun m hm => itoa_len (by unfold inI64; omega)
  have l1 := strand_length c.key
  have l2 := strand_length (flagT c.gone)
  have l3 := strand_length c.val
  have j1 := i2 c.key.length (by omega)
  have j2 := i2 (flagT c.gone).length (by rw [flag_len]; omega)
  have j3 := i2 c.val.length (by omega)
  have f := flag_len c.gone
  have lt : (chT c).length = (strandL c.key).length + ((strandL (flagT c.gone)).length + (strandL c.val).length) := by simp [chT, tieL]
  omega
theorem readC_one {c : Chn} (h : isC c = true) : readOne (chT c) = some c := by
  have hl := chT_len h
  obtain ⟨h1, h2, h3, h4⟩ := (isC_iff c).1 h
  unfold readOne
  have : untieL (chT c) = some [c.key, flagT c.gone, c.val] := untie_tie (l := [c.key, flagT c.gone, c.val]) (by unfold maxKnot; exact Nat.le_trans hl (by omega)) (by simp)
  rw [this]
  simp only
  rw [flag_back, if_pos ⟨flag_ok _, h⟩]
theorem readC_all : ∀ {l : List Chn}, (∀ c ∈ l, isC c = true) → readAll (l.map chT) = some l
  | [], _ => rfl
  | c :: l, h => by
    rw [List.map_cons, readAll, readC_one (h c (by simp)), readC_all (fun x hx => h x (by simp [hx]))]
theorem readC_text {l : List Chn} (h : ∀ c ∈ l, isC c = true) (hl : l.length ≤ 4096) (ht : (textC l).length ≤ maxKnot) : readC (textC l) = some l := by
  unfold readC textC at *
  rw [untie_tie ht (by rw [List.length_map]; exact hl)]
  exact readC_all h
theorem readC_one_is {x : Txt} {c : Chn} (h : readOne x = some c) : isC c = true := by
  unfold readOne at h
  split at h
  · split at h
    · rename_i hc
      injection h with h
      subst h
      exact hc.2
    · cases h
  · cases h
theorem readC_all_is : ∀ {l : List Txt} {r : List Chn}, readAll l = some r → ∀ c ∈ r, isC c = true
  | [], r, h, c, hc => by
    injection h with h
    subst h
    simp at hc
  | x :: l, r, h, c, hc => by
    rw [readAll] at h
    split at h
    · cases h
    · rename_i c0 h0
      split at h
      · cases h
      · rename_i r0 hr0
        injection h with h
        subst h
        rcases List.mem_cons.1 hc with rfl | hc
        · exact readC_one_is h0
        · exact readC_all_is hr0 c hc
theorem readC_is {s : Txt} {r : List Chn} (h : readC s = some r) : ∀ c ∈ r, isC c = true := by
  unfold readC at h
  split at h
  · cases h
  · exact readC_all_is h

/-! ### What there is: pairs by rising keys -/
abbrev Sh := List (Txt × Txt)
def putS (k v : Txt) : Sh → Sh
  | [] => [(k, v)]
  | p :: r => if p.1 < k then p :: putS k v r else if p.1 = k then (k, v) :: r else (k, v) :: p :: r
def delS (k : Txt) : Sh → Sh
  | [] => []
  | p :: r => if p.1 < k then p :: delS k r else if p.1 = k then r else p :: r
def getS (k : Txt) : Sh → Option Txt
  | [] => none
  | p :: r => if p.1 = k then some p.2 else getS k r
def doC (p : Sh) (c : Chn) : Sh := if c.gone = true then delS c.key p else putS c.key c.val p
def doAll (p : Sh) (l : List Chn) : Sh := l.foldl doC p
def Rises (p : Sh) : Prop := p.Pairwise (fun a b => a.1 < b.1)
theorem get_none : ∀ {p : Sh} {k : Txt}, (∀ a ∈ p, a.1 ≠ k) → getS k p = none
  | [], _, _ => rfl
  | a :: p, k, h => by
    rw [getS, if_neg (h a (by simp)), get_none (fun x hx => h x (by simp [hx]))]
theorem get_low {p : Sh} {k : Txt} (h : ∀ a ∈ p, k < a.1) : getS k p = none := get_none fun a ha q => ord_irr k (by have := h a ha; rwa [q] at this)
theorem mem_put : ∀ {p : Sh} {k v : Txt} {a : Txt × Txt}, a ∈ putS k v p → a = (k, v) ∨ a ∈ p
  | [], k, v, a, h => by
    rw [putS] at h
    exact .inl (List.mem_singleton.1 h)
  | b :: p, k, v, a, h => by
    rw [putS] at h
    split at h
    · rcases List.mem_cons.1 h with rfl | h
      · exact .inr (by simp)
      · rcases mem_put h with q | q
        · exact .inl q
        · exact .inr (by simp [q])
    · split at h
      · rcases List.mem_cons.1 h with rfl | h
        · exact .inl rfl
        · exact .inr (by simp [h])
      · rcases List.mem_cons.1 h with rfl | h
        · exact .inl rfl
        · exact .inr h
theorem mem_del : ∀ {p : Sh} {k : Txt} {a : Txt × Txt}, a ∈ delS k p → a ∈ p
  | [], _, _, h => h
  | b :: p, k, a, h => by
    rw [delS] at h
    split at h
    · rcases List.mem_cons.1 h with rfl | h
      · simp
      · simp [mem_del h]
    · split at h
      · simp [h]
      · exact h
theorem rises_put : ∀ {p : Sh} (_ : Rises p) (k v : Txt), Rises (putS k v p)
  | [], _, k, v => List.pairwise_singleton _ _
  | a :: p, h, k, v => by
    obtain ⟨h1, h2⟩ := List.pairwise_cons.1 h
    rw [putS]
    by_cases h3 : a.1 < k
    · rw [if_pos h3]
      refine List.pairwise_cons.2 ⟨fun b hb => ?_, rises_put h2 k v⟩
      rcases mem_put hb with rfl | hb
      · exact h3
      · exact h1 b hb
    · rw [if_neg h3]
      by_cases h4 : a.1 = k
      · rw [if_pos h4]
        exact List.pairwise_cons.2 ⟨fun b hb => by show k < b.1; rw [← h4]; exact h1 b hb, h2⟩
      · rw [if_neg h4]
        have hk : k < a.1 := by
          rcases ord_tri a.1 k with q | q | q
          · exact absurd q h3
          · exact absurd q h4
          · exact q
        refine List.pairwise_cons.2 ⟨fun b hb => ?_, h⟩
        rcases List.mem_cons.1 hb with rfl | hb
        · exact hk
        · exact ord_trans hk (h1 b hb)
theorem rises_del : ∀ {p : Sh} (_ : Rises p) (k : Txt), Rises (delS k p)
  | [], h, _ => h
  | a :: p, h, k => by
    obtain ⟨h1, h2⟩ := List.pairwise_cons.1 h
    rw [delS]
    split
    · exact List.pairwise_cons.2 ⟨fun b hb => h1 b (mem_del hb), rises_del h2 k⟩
    · split
      · exact h2
      · exact h
theorem rises_do {p : Sh} (h : Rises p) (c : Chn) : Rises (doC p c) := by
  unfold doC
  split
  · exact rises_del h _
  · exact rises_put h _ _
theorem rises_all : ∀ {l : List Chn} {p : Sh}, Rises p → Rises (doAll p l)
  | [], _, h => h
  | c :: l, p, h => rises_all (l := l) (rises_do h c)
theorem mem_get : ∀ {p : Sh} (_ : Rises p) {a : Txt × Txt}, a ∈ p → getS a.1 p = some a.2
  | b :: p, h, a, ha => by
    obtain ⟨h1, h2⟩ := List.pairwise_cons.1 h
    rw [getS]
    rcases List.mem_cons.1 ha with rfl | ha
    · rw [if_pos rfl]
    · rw [if_neg (fun q => ord_irr a.1 (by have := h1 a ha; rwa [q] at this)), mem_get h2 ha]
/-- What packing writes. -/
def packC (p : Sh) : List Chn := p.map fun a => ⟨a.1, false, a.2⟩
/-- What lies between. -/
def betw (f t : Txt) (k : Txt) : Bool := !decide (k < f) && (t.isEmpty || decide (k < t))
def scanS (f t : Txt) (p : Sh) : Sh := p.filter fun a => betw f t a.1
theorem scanS_all (p : Sh) : scanS [] [] p = p := by
  unfold scanS
  rw [List.filter_eq_self]
  intro a _
  simp [betw, ord_nil]
theorem scanS_two : ∀ {p : Sh} (_ : Rises p) {f m : Txt} (_ : ¬ m < f) (_ : m ≠ []), scanS f m p ++ scanS m [] p = scanS f [] p
  | [], _, f, m, _, _ => rfl
  | a :: p, h, f, m, hf, hm => by
    obtain ⟨h1, h2⟩ := List.pairwise_cons.1 h
    have ih := scanS_two h2 hf hm
    unfold scanS at ih ⊢
    have hme : m.isEmpty = false := by simpa using hm
    by_cases ham : a.1 < m
    · have e1 : betw m [] a.1 = false := by simp [betw, ham]
      have e2 : betw f m a.1 = betw f [] a.1 := by simp [betw, ham, hme]
      simp only [List.filter_cons, e1, e2]
      cases betw f [] a.1 with
      | true => simpa using ih
      | false => simpa using ih
    · have hp : ∀ b ∈ p, ¬ b.1 < m := fun b hb q => ham (ord_trans (h1 b hb) q)
      have hfa : ∀ b : Txt, ¬ b < m → ¬ b < f := fun b hb q => by
        rcases ord_tri f m with r | r | r
        · exact hb (ord_trans q r)
        · exact hb (r ▸ q)
        · exact hf r
      have e0 : (a :: p).filter (fun a => betw f m a.1) = [] := by
        rw [List.filter_eq_nil_iff]
        intro b hb
        have : ¬ b.1 < m := by
          rcases List.mem_cons.1 hb with rfl | hb
          · exact ham
          · exact hp b hb
        simp [betw, this, hme]
      rw [e0, List.nil_append]
      refine List.filter_congr fun b hb => ?_
      have : ¬ b.1 < m := by
        rcases List.mem_cons.1 hb with rfl | hb
        · exact ham
        · exact hp b hb
      simp [betw, this, hfa _ this]
end Go.Proofs.YtopajmbblemopaaGreatDoor
namespace Go.Proofs.YtopajmbblemopaaGreatDoor
set_option linter.unusedVariables false
set_option linter.unusedSimpArgs false
theorem snoc_zero : ∀ (k x : Txt), (¬ x < k ∧ x < k ++ [0]) ↔ x = k
  | [], [] => by simp
  | [], c :: r => by simp [List.cons_lt_cons_iff]
  | a :: k, [] => by simp
  | a :: k, c :: r => by
    have ih := snoc_zero k r
    rw [List.cons_append, List.cons_lt_cons_iff, List.cons_lt_cons_iff, List.cons.injEq, ← ih]
    constructor
    · rintro ⟨h1, h2⟩
      rcases h2 with h2 | ⟨rfl, h2⟩
      · exact absurd (.inl h2) h1
      · exact ⟨rfl, fun q => h1 (.inr ⟨rfl, q⟩), h2⟩
    · rintro ⟨rfl, h1, h2⟩
      refine ⟨?_, .inr ⟨rfl, h2⟩⟩
      rintro (q | ⟨_, q⟩)
      · exact UInt8.lt_irrefl _ q
      · exact h1 q
theorem betw_one (k x : Txt) : betw k (k ++ [0]) x = decide (x = k) := by
  have h := snoc_zero k x
  have he : (k ++ [0] : Txt).isEmpty = false := by simp
  unfold betw
  rw [he, Bool.false_or]
  by_cases q : x = k
  · obtain ⟨h1, h2⟩ := h.2 q
    rw [decide_eq_false h1, decide_eq_true h2, decide_eq_true q]
    rfl
  · have : ¬ (¬ x < k ∧ x < k ++ [0]) := fun r => q (h.1 r)
    rw [decide_eq_false q]
    by_cases a : x < k
    · simp [a]
    · have b : ¬ x < k ++ [0] := fun r => this ⟨a, r⟩
      simp [b]
theorem scanS_one : ∀ {p : Sh} (_ : Rises p) (k : Txt), scanS k (k ++ [0]) p = match getS k p with | some v => [(k, v)] | none => []
  | [], _, k => rfl
  | a :: p, h, k => by
    obtain ⟨h1, h2⟩ := List.pairwise_cons.1 h
    have ih := scanS_one h2 k
    unfold scanS at ih ⊢
    rw [List.filter_cons, betw_one, getS]
    by_cases q : a.1 = k
    · rw [if_pos q, if_pos (by simpa using q), ih, get_low (fun b hb => by rw [← q]; exact h1 b hb)]
      simp only
      rw [← q]
    · rw [if_neg q, if_neg (by simpa using q), ih]
theorem do_app (p : Sh) (l r : List Chn) : doAll p (l ++ r) = doAll (doAll p l) r := by
  unfold doAll
  rw [List.foldl_append]
end Go.Proofs.YtopajmbblemopaaGreatDoor
