/-
  Lemmas, joined of the texts LStr.
-/
import Derived.Test.YtjmejamgbinigaaDoorMB16
import Derived.Test.YtjmejamgbinigaaDoorMB8
namespace Go.Proofs.YtjmejamgbinigaaDoor
set_option linter.unusedVariables false
set_option linter.unusedSimpArgs false
open Go.RowKit Go.Proofs.YtjmejamgbinigaaDoorW.PrintWords Go.Proofs.YtjmejamgbinigaaDoorW.PrintLast
section
variable {H : Type} {enc : TypeId × Value → H} {w : World} {spare : Nat → Bool} {held : Bool}
theorem str_leaves : leaves Tryd.prog 1 9 = [.str] := by kernel_rfl
theorem str_flat : flatB Tryd.prog 1 9 = true := by kernel_rfl
theorem str_cells : Tryd.prog.cellsOf 9 = 1 := by kernel_rfl
theorem str_bytesOf : Tryd.prog.bytesOf 9 = 16 := by kernel_rfl
set_option maxRecDepth 100000 in
theorem open_strs {v : Value} {d : DataW H} {p : List MemPlace} (hv0 : ∃ A n c, v = .slice A n c) (h : DataW.Trod enc Tryd.prog w 0 spare held 31 v d p) (hw : Light Tryd.prog 31 d) :
    ∃ (A : Option Addr) (l : List ByteArray) (c : Nat), v = .slice A l.length c ∧ l.length ≤ c ∧ Kd.C Kd.string w A l.length l ∧ l.length ≤ 140737488351232 ∧ ∀ x ∈ l, x.size ≤ 140737488351232 := by
  rcases open_rows 1 1 Tryd.underlying31 str_cells str_flat hv0 h hw with rfl | ⟨a, len, cap, C, rfl, hl, hm, hb, hi⟩
  · exact ⟨none, [], 0, rfl, Nat.le_refl _, Kd.C_nil _ _, by simp, fun x hx => by simp at hx⟩
  · rw [str_bytesOf] at hb
    have hX : ∀ i, i < len → ∃ x : ByteArray, C i = [.string x] ∧ x.size ≤ 140737488351232 ∧ w.cell? (a.add i) = some (.string x) := by
      intro i hil
      obtain ⟨h1, h2, h3⟩ := hi i hil
      rw [str_leaves] at h1
      have h30 := h3 0 (by omega)
      rcases hC : C i with _ | ⟨c0, _ | ⟨c1, r⟩⟩
      · rw [hC] at h2; simp at h2
      · rw [hC] at h1 h30
        obtain ⟨⟨x, rfl, hx⟩, _⟩ := h1
        exact ⟨x, rfl, hx, by simpa using h30⟩
      · rw [hC] at h2; simp at h2
    obtain ⟨X, hX⟩ := Deep.choose_lt (α := ByteArray) (n := len) (p := fun i x => C i = [.string x] ∧ x.size ≤ 140737488351232 ∧ w.cell? (a.add i) = some (.string x)) hX
    have hlen : ((List.range len).map X).length = len := by simp
    refine ⟨some a, (List.range len).map X, cap, by rw [hlen], by omega, ?_, by omega, ?_⟩
    · refine ⟨rfl, by omega, fun h0 => ⟨a, rfl, fun j q hj => ⟨[.string q], rfl, rfl, fun i u hu => ?_⟩⟩⟩
      have hjl : j < len := by
        have := (List.getElem?_eq_some_iff.1 hj).1
        simpa using this
      have hq : X j = q := by
        rw [List.getElem?_map, List.getElem?_range hjl] at hj
        simpa using hj
      cases i with
      | zero =>
        simp at hu
        subst hu
        rw [← hq, show j * (Kd.string).sz + 0 = j by simp [Kd.string, Kd.scalar]]
        exact (hX j hjl).2.2
      | succ i => simp at hu
    · intro x hx
      obtain ⟨j, hj, rfl⟩ := List.mem_map.1 hx
      exact (hX j (List.mem_range.1 hj)).2.1
end
def tot (l : List ByteArray) (k : Nat) : Nat := ((l.take k).map (·.size)).sum
theorem tot_succ (l : List ByteArray) (k : Nat) (a : ByteArray) (h : l[k]? = some a) : tot l (k + 1) = tot l k + a.size := by
  unfold tot
  rw [List.take_add_one, h]
  simp
theorem tot_le (l : List ByteArray) (k j : Nat) (a : ByteArray) (h : l[j]? = some a) (hj : j < k) : a.size ≤ tot l k := by
  induction k with
  | zero => omega
  | succ k ih =>
    rcases Nat.lt_or_ge j k with h1 | h1
    · have := ih h1
      cases hk : l[k]? with
      | none =>
        unfold tot at *
        rw [List.take_add_one, hk]
        simpa using this
      | some b => rw [tot_succ l k b hk]; omega
    · obtain rfl : j = k := by omega
      rw [tot_succ l j a h]; omega
theorem tot_mono (l : List ByteArray) (j k : Nat) (h : j ≤ k) : tot l j ≤ tot l k := by
  induction k with
  | zero => rw [show j = 0 by omega]; exact Nat.le_refl _
  | succ k ih =>
    rcases Nat.lt_or_ge j (k + 1) with h1 | h1
    · refine Nat.le_trans (ih (by omega)) ?_
      cases hk : l[k]? with
      | none => unfold tot; rw [List.take_add_one, hk]; simp
      | some b => rw [tot_succ l k b hk]; omega
    · rw [show j = k + 1 by omega]; exact Nat.le_refl _
theorem take_map_succ (l : List ByteArray) (k : Nat) (a : ByteArray) (h : l[k]? = some a) : (l.take (k + 1)).map bsL = (l.take k).map bsL ++ [bsL a] := by
  rw [List.take_add_one, h]
  simp
theorem map_back (l : List ByteArray) : (l.map bsL).map str = l := by
  rw [List.map_map, show (str ∘ bsL) = id from funext fun x => of_bs x, List.map_id]
/-- What a walk reads in such a list. -/
theorem strl_at {w0 w : World} {A : Option Addr} {l : List ByteArray} (hC : Kd.C Kd.string w0 A l.length l) (hb : Below w0.heap.size w0 w) (k : Nat) (x : ByteArray) (h : l[k]? = some x) : ∃ ad, A = some ad ∧ w.cell? (ad.add k) = some (.string x) := by
  have hk := (List.getElem?_eq_some_iff.1 h).1
  obtain ⟨ad, h1, h2⟩ := Kd.at_string (Kd.C_below hC hb) (k : Int) (by omega) (by omega)
  refine ⟨ad, h1, ?_⟩
  have h3 : rdOf ByteArray.empty l (k : Int) = x := by simp [rdOf, h]
  rw [h3] at h2
  simpa using h2
end Go.Proofs.YtjmejamgbinigaaDoor
