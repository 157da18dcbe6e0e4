/-
  Lemmas, joined of the texts S0 S1.
-/
import Derived.Test.YtopajmbblemopaaGreatDoorMB3
import Derived.Test.YtopajmbblemopaaGreatDoorMB1
namespace Go.Proofs.YtopajmbblemopaaGreatDoor
set_option linter.unusedVariables false
set_option linter.unusedSimpArgs false
open Go.Lib
structure Chn where
  key : Txt
  gone : Bool
  val : Txt
/-- May a change be? -/
def isC (c : Chn) : Bool := decide (1 ≤ c.key.length) && (decide (c.key.length ≤ 128) && (decide (c.val.length ≤ 262144) && (!c.gone || c.val.isEmpty)))
def flagT (b : Bool) : Txt := if b = true then [49] else [48]
def chT (c : Chn) : Txt := tieL [c.key, flagT c.gone, c.val]
/-- Changes' text. -/
def textC (l : List Chn) : Txt := tieL (l.map chT)
def readOne (x : Txt) : Option Chn :=
  match untieL x with
  | some [k, g, v] => if (g = [48] ∨ g = [49]) ∧ isC ⟨k, g == [49], v⟩ = true then some ⟨k, g == [49], v⟩ else none
  | _ => none
def readAll : List Txt → Option (List Chn)
  | [] => some []
  | x :: l => match readOne x with | none => none | some c => match readAll l with | none => none | some r => some (c :: r)
/-- The changes of a text. -/
def readC (s : Txt) : Option (List Chn) := match untieL s with | none => none | some l => readAll l
theorem flag_back (b : Bool) : (flagT b == ([49] : Txt)) = b := by cases b <;> rfl
theorem flag_ok (b : Bool) : flagT b = [48] ∨ flagT b = [49] := by cases b <;> simp [flagT]
theorem flag_len (b : Bool) : (flagT b).length = 1 := by cases b <;> rfl
theorem isC_iff (c : Chn) : isC c = true ↔ 1 ≤ c.key.length ∧ c.key.length ≤ 128 ∧ c.val.length ≤ 262144 ∧ (c.gone = false ∨ c.val = []) := by
  unfold isC
  simp
theorem chT_len {c : Chn} (h : isC c = true) : (chT c).length ≤ c.key.length + c.val.length + 70 := by
  obtain ⟨h1, h2, h3, h4⟩ := (isC_iff c).1 h
  have i2 : ∀ m : Nat, m ≤ 1048576 → (itoa (m : Int)).length ≤ 20 := fun m hm => itoa_len (by unfold inI64; omega)
  have l1 := strand_length c.key
  have l2 := strand_length (flagT c.gone)
  have l3 := strand_length c.val
  have j1 := i2 c.key.length (by omega)
  have j2 := i2 (flagT c.gone).length (by rw [flag_len]; omega)
  have j3 := i2 c.val.length (by omega)
  have f := flag_len c.gone
  have lt : (chT c).length = (strandL c.key).length + ((strandL (flagT c.gone)).length + (strandL c.val).length) := by simp [chT, tieL]
  omega
theorem readC_one {c : Chn} (h : isC c = true) : readOne (chT c) = some c := by
  have hl := chT_len h
  obtain ⟨h1, h2, h3, h4⟩ := (isC_iff c).1 h
  unfold readOne
  have : untieL (chT c) = some [c.key, flagT c.gone, c.val] := untie_tie (l := [c.key, flagT c.gone, c.val]) (by unfold maxKnot; exact Nat.le_trans hl (by omega)) (by simp)
  rw [this]
  simp only
  rw [flag_back, if_pos ⟨flag_ok _, h⟩]
theorem readC_all : ∀ {l : List Chn}, (∀ c ∈ l, isC c = true) → readAll (l.map chT) = some l
  | [], _ => rfl
  | c :: l, h => by
    rw [List.map_cons, readAll, readC_one (h c (by simp)), readC_all (fun x hx => h x (by simp [hx]))]
theorem readC_text {l : List Chn} (h : ∀ c ∈ l, isC c = true) (hl : l.length ≤ 4096) (ht : (textC l).length ≤ maxKnot) : readC (textC l) = some l := by
  unfold readC textC at *
  rw [untie_tie ht (by rw [List.length_map]; exact hl)]
  exact readC_all h
theorem readC_one_is {x : Txt} {c : Chn} (h : readOne x = some c) : isC c = true := by
  unfold readOne at h
  split at h
  · split at h
    · rename_i hc
      injection h with h
      subst h
      exact hc.2
    · cases h
  · cases h
theorem readC_all_is : ∀ {l : List Txt} {r : List Chn}, readAll l = some r → ∀ c ∈ r, isC c = true
  | [], r, h, c, hc => by
    injection h with h
    subst h
    simp at hc
  | x :: l, r, h, c, hc => by
    rw [readAll] at h
    split at h
    · cases h
    · rename_i c0 h0
      split at h
      · cases h
      · rename_i r0 hr0
        injection h with h
        subst h
        rcases List.mem_cons.1 hc with rfl | hc
        · exact readC_one_is h0
        · exact readC_all_is hr0 c hc
theorem readC_is {s : Txt} {r : List Chn} (h : readC s = some r) : ∀ c ∈ r, isC c = true := by
  unfold readC at h
  split at h
  · cases h
  · exact readC_all_is h

/-! ### What there is: pairs by rising keys -/
abbrev Sh := List (Txt × Txt)
def putS (k v : Txt) : Sh → Sh
  | [] => [(k, v)]
  | p :: r => if p.1 < k then p :: putS k v r else if p.1 = k then (k, v) :: r else (k, v) :: p :: r
def delS (k : Txt) : Sh → Sh
  | [] => []
  | p :: r => if p.1 < k then p :: delS k r else if p.1 = k then r else p :: r
def getS (k : Txt) : Sh → Option Txt
  | [] => none
  | p :: r => if p.1 = k then some p.2 else getS k r
def doC (p : Sh) (c : Chn) : Sh := if c.gone = true then delS c.key p else putS c.key c.val p
def doAll (p : Sh) (l : List Chn) : Sh := l.foldl doC p
def Rises (p : Sh) : Prop := p.Pairwise (fun a b => a.1 < b.1)
theorem get_none : ∀ {p : Sh} {k : Txt}, (∀ a ∈ p, a.1 ≠ k) → getS k p = none
  | [], _, _ => rfl
  | a :: p, k, h => by
    rw [getS, if_neg (h a (by simp)), get_none (fun x hx => h x (by simp [hx]))]
theorem get_low {p : Sh} {k : Txt} (h : ∀ a ∈ p, k < a.1) : getS k p = none := get_none fun a ha q => ord_irr k (by have := h a ha; rwa [q] at this)
theorem get_put : ∀ {p : Sh} (_ : Rises p) (k v j : Txt), getS j (putS k v p) = if k = j then some v else getS j p
  | [], _, k, v, j => by
    rw [putS, getS]
    rfl
  | a :: p, h, k, v, j => by
    obtain ⟨h1, h2⟩ := List.pairwise_cons.1 h
    rw [putS]
    by_cases h3 : a.1 < k
    · rw [if_pos h3, getS, get_put h2 k v j, getS]
      by_cases h4 : a.1 = j
      · rw [if_pos h4, if_pos h4, if_neg (fun q => ord_irr a.1 (by rw [q, ← h4] at h3; exact h3))]
      · rw [if_neg h4, if_neg h4]
    · rw [if_neg h3]
      by_cases h4 : a.1 = k
      · rw [if_pos h4, getS, getS, h4]
        by_cases h5 : k = j
        · rw [if_pos h5, if_pos h5]
        · rw [if_neg h5, if_neg h5, if_neg h5]
      · rw [if_neg h4, getS]
theorem mem_put : ∀ {p : Sh} {k v : Txt} {a : Txt × Txt}, a ∈ putS k v p → a = (k, v) ∨ a ∈ p
  | [], k, v, a, h => by
    rw [putS] at h
    exact .inl (List.mem_singleton.1 h)
  | b :: p, k, v, a, h => by
    rw [putS] at h
    split at h
    · rcases List.mem_cons.1 h with rfl | h
      · exact .inr (by simp)
      · rcases mem_put h with q | q
        · exact .inl q
        · exact .inr (by simp [q])
    · split at h
      · rcases List.mem_cons.1 h with rfl | h
        · exact .inl rfl
        · exact .inr (by simp [h])
      · rcases List.mem_cons.1 h with rfl | h
        · exact .inl rfl
        · exact .inr h
theorem mem_del : ∀ {p : Sh} {k : Txt} {a : Txt × Txt}, a ∈ delS k p → a ∈ p
  | [], _, _, h => h
  | b :: p, k, a, h => by
    rw [delS] at h
    split at h
    · rcases List.mem_cons.1 h with rfl | h
      · simp
      · simp [mem_del h]
    · split at h
      · simp [h]
      · exact h
theorem rises_put : ∀ {p : Sh} (_ : Rises p) (k v : Txt), Rises (putS k v p)
  | [], _, k, v => List.pairwise_singleton _ _
  | a :: p, h, k, v => by
    obtain ⟨h1, h2⟩ := List.pairwise_cons.1 h
    rw [putS]
    by_cases h3 : a.1 < k
    · rw [if_pos h3]
      refine List.pairwise_cons.2 ⟨fun b hb => ?_, rises_put h2 k v⟩
      rcases mem_put hb with rfl | hb
      · exact h3
      · exact h1 b hb
    · rw [if_neg h3]
      by_cases h4 : a.1 = k
      · rw [if_pos h4]
        exact List.pairwise_cons.2 ⟨fun b hb => by show k < b.1; rw [← h4]; exact h1 b hb, h2⟩
      · rw [if_neg h4]
        have hk : k < a.1 := by
          rcases ord_tri a.1 k with q | q | q
          · exact absurd q h3
          · exact absurd q h4
          · exact q
        refine List.pairwise_cons.2 ⟨fun b hb => ?_, h⟩
        rcases List.mem_cons.1 hb with rfl | hb
        · exact hk
        · exact ord_trans hk (h1 b hb)
theorem rises_del : ∀ {p : Sh} (_ : Rises p) (k : Txt), Rises (delS k p)
  | [], h, _ => h
  | a :: p, h, k => by
    obtain ⟨h1, h2⟩ := List.pairwise_cons.1 h
    rw [delS]
    split
    · exact List.pairwise_cons.2 ⟨fun b hb => h1 b (mem_del hb), rises_del h2 k⟩
    · split
      · exact h2
      · exact h
theorem rises_do {p : Sh} (h : Rises p) (c : Chn) : Rises (doC p c) := by
  unfold doC
  split
  · exact rises_del h _
  · exact rises_put h _ _
theorem rises_all : ∀ {l : List Chn} {p : Sh}, Rises p → Rises (doAll p l)
  | [], _, h => h
  | c :: l, p, h => rises_all (l := l) (rises_do h c)
theorem mem_get : ∀ {p : Sh} (_ : Rises p) {a : Txt × Txt}, a ∈ p → getS a.1 p = some a.2
  | b :: p, h, a, ha => by
    obtain ⟨h1, h2⟩ := List.pairwise_cons.1 h
    rw [getS]
    rcases List.mem_cons.1 ha with rfl | ha
    · rw [if_pos rfl]
    · rw [if_neg (fun q => ord_irr a.1 (by have := h1 a ha; rwa [q] at this)), mem_get h2 ha]
/-- What has the same at each key is the same. -/
theorem sh_ext : ∀ {p q : Sh}, Rises p → Rises q → (∀ k, getS k p = getS k q) → p = q
  | [], [], _, _, _ => rfl
  | [], b :: q, _, hq, h => by
    have := mem_get hq (a := b) (by simp)
    rw [← h] at this
    cases this
  | a :: p, [], hp, _, h => by
    have := mem_get hp (a := a) (by simp)
    rw [h] at this
    cases this
  | a :: p, b :: q, hp, hq, h => by
    obtain ⟨p1, p2⟩ := List.pairwise_cons.1 hp
    obtain ⟨q1, q2⟩ := List.pairwise_cons.1 hq
    have ha := mem_get hp (a := a) (by simp)
    have hb := mem_get hq (a := b) (by simp)
    have hab : a.1 = b.1 := by
      rw [h] at ha
      rw [← h] at hb
      rcases ord_tri a.1 b.1 with r | r | r
      · have := get_low (p := b :: q) (k := a.1) (fun x hx => by
          rcases List.mem_cons.1 hx with rfl | hx
          · exact r
          · exact ord_trans r (q1 x hx))
        rw [this] at ha
        cases ha
      · exact r
      · have := get_low (p := a :: p) (k := b.1) (fun x hx => by
          rcases List.mem_cons.1 hx with rfl | hx
          · exact r
          · exact ord_trans r (p1 x hx))
        rw [this] at hb
        cases hb
    have hv : a = b := by
      have h2 := h a.1
      rw [ha, hab, hb] at h2
      injection h2 with h2
      exact Prod.ext hab h2
    subst hv
    congr 1
    refine sh_ext p2 q2 fun k => ?_
    have h2 := h k
    rw [getS, getS] at h2
    by_cases hk : a.1 = k
    · subst hk
      rw [get_low (fun x hx => p1 x hx), get_low (fun x hx => q1 x hx)]
    · rw [if_neg hk, if_neg hk] at h2
      exact h2
/-- What packing writes. -/
def packC (p : Sh) : List Chn := p.map fun a => ⟨a.1, false, a.2⟩
theorem get_pack : ∀ (p q : Sh) (_ : Rises p) (_ : Rises q) (k : Txt), getS k (doAll q (packC p)) = (getS k p).orElse fun _ => getS k q
  | [], q, _, _, k => by simp [doAll, packC, getS]
  | a :: p, q, h, hq, k => by
    obtain ⟨h1, h2⟩ := List.pairwise_cons.1 h
    have e : doAll q (packC (a :: p)) = doAll (putS a.1 a.2 q) (packC p) := rfl
    rw [e, get_pack p _ h2 (rises_put hq _ _) k, get_put hq, getS]
    by_cases hk : a.1 = k
    · rw [if_pos hk, if_pos hk]
      subst hk
      rw [get_low (fun x hx => h1 x hx)]
      rfl
    · rw [if_neg hk, if_neg hk]
theorem do_pack {p : Sh} (h : Rises p) : doAll [] (packC p) = p := by
  refine sh_ext (rises_all List.Pairwise.nil) h fun k => ?_
  rw [get_pack p [] h List.Pairwise.nil k]
  cases getS k p <;> rfl
/-- What lies between. -/
def betw (f t : Txt) (k : Txt) : Bool := !decide (k < f) && (t.isEmpty || decide (k < t))
def scanS (f t : Txt) (p : Sh) : Sh := p.filter fun a => betw f t a.1
theorem scanS_all (p : Sh) : scanS [] [] p = p := by
  unfold scanS
  rw [List.filter_eq_self]
  intro a _
  simp [betw, ord_nil]
end Go.Proofs.YtopajmbblemopaaGreatDoor
namespace Go.Proofs.YtopajmbblemopaaGreatDoor
set_option linter.unusedVariables false
set_option linter.unusedSimpArgs false
theorem do_app (p : Sh) (l r : List Chn) : doAll p (l ++ r) = doAll (doAll p l) r := by
  unfold doAll
  rw [List.foldl_append]
end Go.Proofs.YtopajmbblemopaaGreatDoor
