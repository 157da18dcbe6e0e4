/-
  Lemmas, joined of the texts Leaf.
-/
import Derived.ProofKit
import Derived.OpenShut
import Derived.Deep.Slices
import Derived.SizedLaws
namespace Go.Proofs.YtopajmbblemopaaGreatDoor
set_option linter.unusedVariables false
set_option linter.unusedSimpArgs false

inductive Leaf where
  | bool
  | int (k : IntKind)
  | str
  | deep (t : TypeId)

/-- The cells of a type, one behind the other. -/
def leaves (P : Program) : Nat → TypeId → List Leaf
  | 0, t => [.deep t]
  | n + 1, t => match P.underlying t with
    | some .bool => [.bool]
    | some (.int k) => [.int k]
    | some .string => [.str]
    | some (.struct fs) => fs.toList.flatMap fun f => leaves P n f.type
    | some (.array m e) => (List.range m).flatMap fun _ => leaves P n e
    | _ => [.deep t]

def laidFields (P : Program) (lv : TypeId → List Leaf) (ok : TypeId → Bool) : List Field → Nat → Option Nat
  | [], off => some off
  | f :: r, off => if f.offset = off ∧ P.cellsOf f.type = (lv f.type).length ∧ ok f.type = true then laidFields P lv ok r (off + (lv f.type).length) else none

/-- The layout is as the leaves say. -/
def flatB (P : Program) : Nat → TypeId → Bool
  | 0, t => decide (P.cellsOf t = 1)
  | n + 1, t => match P.underlying t with
    | some .bool | some (.int _) | some .string => true
    | some (.struct fs) => decide (laidFields P (leaves P n) (flatB P n) fs.toList 0 = some (P.cellsOf t))
    | some (.array m e) => decide (P.cellsOf e = (leaves P n e).length ∧ P.cellsOf t = m * (leaves P n e).length) && flatB P n e
    | _ => decide (P.cellsOf t = 1)

section
variable {H : Type} (enc : TypeId × Value → H) (P : Program) (w : World) (base : Nat) (spare : Nat → Bool) (held : Bool)

/-- What is no heavier than the row lets in. -/
def Light (P : Program) (t : TypeId) (d : DataW H) : Prop := ∀ m ∈ d.weights P t, m ≤ 140737488351232

def LeafOk : Leaf → Value → Prop
  | .bool, v => ∃ b, v = .bool b
  | .int k, v => ∃ n, v = .int k n ∧ (Lit.int k n).wf = true
  | .str, v => ∃ s : ByteArray, v = .string s ∧ s.size ≤ 140737488351232
  | .deep t, v => ∃ n x, DataW.trod enc P w base spare held n t [v] = some x ∧ Light P t x.1

def LeafAll : List Leaf → List Value → Prop
  | [], [] => True
  | l :: ls, v :: vs => LeafOk enc P w base spare held l v ∧ LeafAll ls vs
  | _, _ => False
end

section
variable {H : Type} {enc : TypeId × Value → H} {P : Program} {w : World} {base : Nat} {spare : Nat → Bool} {held : Bool}

theorem LeafAll.length : ∀ {ls : List Leaf} {vs : List Value}, LeafAll enc P w base spare held ls vs → vs.length = ls.length
  | [], [], _ => rfl
  | _ :: ls, _ :: vs, h => by simp [LeafAll.length (ls := ls) (vs := vs) h.2]
theorem LeafAll.append : ∀ {ls ms : List Leaf} {vs us : List Value}, LeafAll enc P w base spare held ls vs → LeafAll enc P w base spare held ms us → LeafAll enc P w base spare held (ls ++ ms) (vs ++ us)
  | [], _, [], _, _, h => h
  | _ :: _, _, _ :: _, _, h, k => ⟨h.1, LeafAll.append h.2 k⟩

theorem leafAll_fields {lv : TypeId → List Leaf} {ok : TypeId → Bool} {cs : List Value} (r : TypeId → List Value → Option (DataW H × List MemPlace))
    (hr : ∀ t us x, ok t = true → r t us = some x → Light P t x.1 → LeafAll enc P w base spare held (lv t) us) : ∀ (fs : List Field) (off : Nat) (tot : Nat), laidFields P lv ok fs off = some tot → tot = cs.length →
      (∀ f ∈ fs, ∃ x, r f.type ((cs.drop f.offset).take (P.cellsOf f.type)) = some x ∧ Light P f.type x.1) → LeafAll enc P w base spare held (fs.flatMap fun f => lv f.type) (cs.drop off) := by
  intro fs
  induction fs with
  | nil =>
    intro off tot h ht _
    simp [laidFields] at h
    rw [List.drop_eq_nil_of_le (by omega)]
    trivial
  | cons f rest ih =>
    intro off tot h ht hx
    unfold laidFields at h
    split at h
    · rename_i hc
      obtain ⟨h1, h2, h3⟩ := hc
      obtain ⟨x, hx0, hw0⟩ := hx f (by simp)
      have hl := hr _ _ _ h3 hx0 hw0
      rw [h1, h2] at hl
      have hrest := ih _ _ h ht (fun g hg => hx g (by simp [hg]))
      have hsplit : cs.drop off = (cs.drop off).take (lv f.type).length ++ cs.drop (off + (lv f.type).length) := by
        rw [← List.drop_drop, List.take_append_drop]
      rw [hsplit, List.flatMap_cons]
      exact hl.append hrest
    · cases h

theorem leafAll_rep {n k : Nat} {ls : List Leaf} {cs : List Value} (hk : ls.length = k) (hcs : cs.length = n * k) (h : ∀ i, i < n → LeafAll enc P w base spare held ls ((cs.drop (i * k)).take k)) :
    LeafAll enc P w base spare held ((List.range n).flatMap fun _ => ls) cs := by
  induction n generalizing cs with
  | zero =>
    have : cs = [] := List.eq_nil_of_length_eq_zero (by simpa using hcs)
    subst this
    trivial
  | succ n ih =>
    have h0 := h 0 (by omega)
    simp only [Nat.zero_mul, List.drop_zero] at h0
    have hr := ih (cs := cs.drop k) (by simp [hcs, Nat.succ_mul]) (fun i hi => by
      have := h (i + 1) (by omega)
      rwa [Nat.succ_mul, Nat.add_comm (i * k) k, ← List.drop_drop] at this)
    rw [List.range_succ_eq_map, List.flatMap_cons, List.flatMap_map]
    have := h0.append hr
    rwa [List.take_append_drop] at this

theorem trod_one {t : TypeId} {cs : List Value} {fuel : Nat} {x : DataW H × List MemPlace} (hc : P.cellsOf t = 1) (h : DataW.trod enc P w base spare held fuel t cs = some x) : ∃ v, cs = [v] := by
  by_cases hs : ∃ fs, P.underlying t = some (.struct fs)
  · obtain ⟨fs, ht⟩ := hs
    obtain ⟨_, _, _, _, hlen, _⟩ := DataW.trod_struct ht h
    rw [hc] at hlen
    match cs, hlen with
    | [v], _ => exact ⟨v, rfl⟩
  by_cases ha : ∃ n e, P.underlying t = some (.array n e)
  · obtain ⟨m, e, ht⟩ := ha
    obtain ⟨_, _, _, _, hlen, _⟩ := DataW.trod_array ht h
    rw [hc] at hlen
    match cs, hlen with
    | [v], _ => exact ⟨v, rfl⟩
  cases fuel with
  | zero => simp [DataW.trod] at h
  | succ n =>
    unfold DataW.trod at h
    split at h
    all_goals first
      | exact ⟨_, rfl⟩
      | (rename_i ht; exact (hs ⟨_, ht⟩).elim)
      | (rename_i ht; exact (ha ⟨_, _, ht⟩).elim)
      | cases h

theorem light_field {fs : Array Field} {t : TypeId} (ht : P.underlying t = some (.struct fs)) {xs : List (DataW H × List MemPlace)} (h : Light P t (.agg (xs.map (·.1)))) {i : Nat} {f : Field} {x : DataW H × List MemPlace} (hf : fs[i]? = some f) (hx : xs[i]? = some x) : Light P f.type x.1 := by
  intro m hm
  refine h m ?_
  unfold DataW.weights
  rw [ht]
  exact DataW.weights_mem_each (j := i) (t := f.type) (d := x.1) (by simp [hf]) (by simp [hx]) m hm
theorem mem_weightsAll {e : TypeId} : ∀ {ds : List (DataW H)} {i : Nat} {d : DataW H}, ds[i]? = some d → ∀ m ∈ d.weights P e, m ∈ DataW.weightsAll P e ds
  | [], _, _, h => by simp at h
  | d :: r, 0, _, h => by
    simp at h
    subst h
    intro m hm
    unfold DataW.weightsAll
    exact List.mem_append.2 (.inl hm)
  | d :: r, i + 1, _, h => by
    intro m hm
    unfold DataW.weightsAll
    exact List.mem_append.2 (.inr (mem_weightsAll (ds := r) (i := i) (by simpa using h) m hm))
theorem light_elem {n : Nat} {e t : TypeId} (ht : P.underlying t = some (.array n e)) {xs : List (DataW H × List MemPlace)} (h : Light P t (.agg (xs.map (·.1)))) {i : Nat} {x : DataW H × List MemPlace} (hx : xs[i]? = some x) : Light P e x.1 := by
  intro m hm
  refine h m ?_
  unfold DataW.weights
  rw [ht]
  exact mem_weightsAll (i := i) (d := x.1) (by simp [hx]) m hm
theorem light_slice {e t : TypeId} (ht : P.underlying t = some (.slice e)) {elems spare : List (DataW H)} (h : Light P t (.slice elems spare)) {i : Nat} {d : DataW H} (hx : elems[i]? = some d) : Light P e d := by
  intro m hm
  refine h m ?_
  unfold DataW.weights
  rw [ht]
  exact List.mem_cons_of_mem _ (List.mem_append.2 (.inl (mem_weightsAll hx m hm)))
theorem light_len {e t : TypeId} (ht : P.underlying t = some (.slice e)) {elems spare : List (DataW H)} (h : Light P t (.slice elems spare)) : elems.length * P.bytesOf e ≤ 140737488351232 := by
  have : (elems.length + spare.length) * P.bytesOf e ≤ 140737488351232 := by
    refine h _ ?_
    unfold DataW.weights
    rw [ht]
    exact List.mem_cons_self
  exact Nat.le_trans (Nat.mul_le_mul_right _ (by omega)) this
theorem light_arg {ts : List TypeId} {ds : List (DataW H)} (h : (DataW.weightsEach P ts ds).all (· ≤ reachBytes) = true) {j : Nat} {t : TypeId} {d : DataW H} (ht : ts[j]? = some t) (hd : ds[j]? = some d) : Light P t d := by
  intro m hm
  have := List.all_eq_true.1 h m (DataW.weights_mem_each ht hd m hm)
  have h2 : m ≤ reachBytes := by simpa using this
  exact Nat.le_trans h2 (by decide)

theorem leaves_trod : ∀ (n : Nat) (t : TypeId) (cs : List Value) (fuel : Nat) (x : DataW H × List MemPlace), flatB P n t = true → DataW.trod enc P w base spare held fuel t cs = some x → Light P t x.1 → LeafAll enc P w base spare held (leaves P n t) cs := by
  have one : ∀ (t : TypeId) (cs : List Value) (fuel : Nat) (x : DataW H × List MemPlace), P.cellsOf t = 1 → DataW.trod enc P w base spare held fuel t cs = some x → Light P t x.1 → LeafAll enc P w base spare held [.deep t] cs := by
    intro t cs fuel x hc h hw
    obtain ⟨v, rfl⟩ := trod_one hc h
    exact ⟨⟨fuel, x, h, hw⟩, trivial⟩
  intro n
  induction n with
  | zero =>
    intro t cs fuel x hf h hw
    exact one t cs fuel x (by simpa [flatB] using hf) h hw
  | succ n ih =>
    intro t cs fuel x hf h hw
    unfold flatB at hf
    unfold leaves
    split at hf
    · rename_i ht
      obtain ⟨b, rfl, _⟩ := DataW.trod_bool ht h
      exact ⟨⟨b, rfl⟩, trivial⟩
    · rename_i k ht
      obtain ⟨m, rfl, _, hw⟩ := DataW.trod_int ht h
      exact ⟨⟨m, rfl, hw⟩, trivial⟩
    · rename_i ht
      obtain ⟨q, rfl, rfl, _⟩ := DataW.trod_string ht h
      have := hw q.data.toList.length (by unfold DataW.weights; exact List.mem_singleton.2 rfl)
      exact ⟨⟨q, rfl, by simpa using this⟩, trivial⟩
    · rename_i fs ht
      obtain ⟨xs, m, rfl, rfl, hlen, hxl, hx⟩ := DataW.trod_struct ht h
      have := leafAll_fields (enc := enc) (w := w) (base := base) (spare := spare) (held := held) (cs := cs) (fun t us => DataW.trod enc P w base spare held m t us) (fun t us x ok hx hw => ih t us m x ok hx hw) fs.toList 0 _ (of_decide_eq_true hf) hlen.symm (fun f hf => by
        obtain ⟨i, hi, he⟩ := List.mem_iff_getElem.1 hf
        have hi' : i < fs.size := by simpa using hi
        have hfi : fs[i]? = some f := by rw [Array.getElem?_eq_getElem hi']; simpa using he
        have := hx i f hfi
        have hxi : xs[i]? = some (xs[i]'(by omega)) := List.getElem?_eq_getElem (by omega)
        rw [hxi] at this
        exact ⟨_, this, light_field ht hw hfi hxi⟩)
      simpa using this
    · rename_i m e ht
      obtain ⟨xs, k, rfl, rfl, hlen, hxl, hx⟩ := DataW.trod_array ht h
      simp only [Bool.and_eq_true, decide_eq_true_eq] at hf
      obtain ⟨⟨h1, h2⟩, h3⟩ := hf
      refine leafAll_rep rfl (by rw [hlen, h2]) (fun i hi => ?_)
      have := hx i hi
      have hxi : xs[i]? = some (xs[i]'(by omega)) := List.getElem?_eq_getElem (by omega)
      rw [hxi, h1] at this
      exact ih e _ k _ h3 this (light_elem ht hw hxi)
    · exact one t cs fuel x (of_decide_eq_true hf) h hw
end
end Go.Proofs.YtopajmbblemopaaGreatDoor
