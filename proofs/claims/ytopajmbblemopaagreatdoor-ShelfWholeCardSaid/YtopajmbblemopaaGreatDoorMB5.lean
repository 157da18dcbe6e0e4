/-
  Lemmas, joined of the texts Fw2.
-/
import Derived.Test.YtopajmbblemopaaGreatDoorMB0
namespace Go.Proofs.YtopajmbblemopaaGreatDoor
set_option linter.unusedVariables false
set_option linter.unusedSimpArgs false
open Go.RowKit

theorem zero_u8_size : (Value.int IntKind.u8 0).cells.size = 1 := rfl

section
variable {P : Program}

/-- append(v, u...): both rows of one-cell elements. -/
theorem run_append_row (w : World) (t ty e : TypeId) (z : Value) (bytes : Nat) (ht : P.underlying t = some (.slice e))
    (hinfo : (P.info? e).map (fun i => (i.zero, i.size, i.bytes)) = some (some z, 1, bytes)) (hz : z.cells.size = 1)
    (v u : Value) (xs ys : List Value) (hv : Row w e v xs) (hu : Row w e u ys) (h1 : ∀ y ∈ ys, y.oneCell' = true)
    (hl : xs.length + ys.length ≤ 140737488355328) (hlb : (xs.length + ys.length) * bytes ≤ 140737488355328) :
    ∃ v' w', (Builtin.append_ #[t, t] ty #[v, u]).run P w = .ok v' w' ∧ Row w' e v' (xs ++ ys) ∧ w.grownBy w' v.ownBlock ∧ (v'.ownBlock = v.ownBlock ∨ v'.ownBlock = some w.heap.size) := by
  obtain ⟨i, hi, hzz⟩ := Option.map_eq_some_iff.1 hinfo
  simp only [Prod.mk.injEq] at hzz
  obtain ⟨hz0, hz1, hz2⟩ := hzz
  rcases hu.nil_or with ⟨rfl, rfl⟩ | ⟨g, cap, rfl, hc, hm, hcell, hfz⟩
  · have := run_append_owned_none (P := P) w 0 t ty e i 1 ht hi v xs.length xs hv
    exact ⟨v, w, this, by simpa using hv, World.grownBy.refl _ _, .inl rfl⟩
  · obtain ⟨v', w', hr, ho, hg, _, hat⟩ := run_append_own_at (P := P) w 0 t ty e i z 1 bytes ht hi hz0 hz1 hz2 hz (by omega) v xs.length xs hv ⟨g, 0, none⟩ ys.length cap ys (by simp)
      (fun j y hj => by rw [show (⟨g, 0, none⟩ : Addr).add j = ⟨g, j, none⟩ from by unfold Addr.add; split <;> simp_all]; exact hcell j y hj) h1
      (by simp only [maxLen]; omega) hlb (Nat.zero_le _)
    exact ⟨v', w', hr, by simpa [Row] using ho, hg, hat⟩

/-- append(v, s...), s a string. -/
theorem run_append_str (w : World) (t u ty e : TypeId) (ht : P.underlying t = some (.slice e)) (hu : P.underlying u = some .string)
    (hinfo : (P.info? e).map (fun i => (i.zero, i.size, i.bytes)) = some (some (.int .u8 0), 1, 1))
    (v : Value) (xs : List Value) (s : ByteArray) (hv : Row w e v xs) (hl : xs.length + s.size ≤ 140737488355328) :
    ∃ v' w', (Builtin.append_ #[t, u] ty #[v, .string s]).run P w = .ok v' w' ∧ Row w' e v' (xs ++ u8s s.data.toList) ∧ w.grownBy w' v.ownBlock ∧ (v'.ownBlock = v.ownBlock ∨ v'.ownBlock = some w.heap.size) := by
  obtain ⟨i, hi, hzz⟩ := Option.map_eq_some_iff.1 hinfo
  simp only [Prod.mk.injEq] at hzz
  obtain ⟨hz0, hz1, hz2⟩ := hzz
  have hsl : (u8s s.data.toList).length = s.size := by rw [← strCells_u8s, Lib.strCells_length]
  have hlen : (xs ++ u8s s.data.toList).length = xs.length + s.size := by rw [List.length_append, hsl]
  have new : ∀ old, old < xs.length + s.size →
      Row (w.drew.alloc (.cells (xs.toArray ++ (Lib.strCells s).toArray ++ Builtin.zeroCells (Value.int .u8 0).cells (grownCap w (xs.length + s.size) old e - (xs.length + s.size))) e)) e
        (.slice (some ⟨w.heap.size, 0, none⟩) (xs.length + s.size) (grownCap w (xs.length + s.size) old e)) (xs ++ u8s s.data.toList) := by
    intro old ho
    have hge := grownCap_ge w (xs.length + s.size) old e
    have hcm := grownCap_le_maxLen w (xs.length + s.size) old e (by simp only [maxLen]; omega)
    refine ⟨by rw [hlen]; omega, .inr ⟨w.heap.size, _, _, by rw [hlen], Nat.zero_le _, heap_alloc_new w.drew _, by rw [hlen]; exact hge, hcm, ?_, ?_⟩⟩
    · simp only [Array.size_append, List.size_toArray, size_zeroCells, zero_u8_size, Lib.strCells_length]; omega
    · simp only [Array.toList_append, List.append_assoc, strCells_u8s]
      rw [← List.append_assoc, Nat.mul_one]
      exact List.take_left
  have grow : ∀ (o : Obj), w.grownBy (w.drew.alloc o) v.ownBlock := fun o => ⟨rfl, rfl, rfl, by simp, fun k hk _ => Below.heap_alloc w.drew _ k hk⟩
  rcases hv.2 with ⟨rfl, h0⟩ | ⟨g, cap, cur, rfl, _, hh, hc, hm, hs, htk⟩
  · obtain rfl : xs = [] := List.eq_nil_of_length_eq_zero h0
    by_cases hz : s.size = 0
    · have hn : u8s s.data.toList = [] := List.eq_nil_of_length_eq_zero (by rw [hsl, hz])
      refine ⟨.slice none 0 0, w, ?_, by rw [hn]; exact Row.nil w e, World.grownBy.refl _ _, .inl rfl⟩
      have hf := Lib.run_firstCells_string (P := P) w 1 s
      rw [hz] at hf
      simp [Builtin.append_, run_underlying ht, run_underlying hu, sizeOf, typeInfo, hi, hz1, Builtin.lenOf, hz, hf]
    · have hr := run_append_nil_string (P := P) w t u ty e i (.int .u8 0) ht hu hi hz0 s (by omega) (by simp at hl; omega) (by simp at hl; rw [hz2]; omega)
      have hnew := new 0 (by simp; omega)
      simp only [List.length_nil, Nat.zero_add, Array.empty_append, List.nil_append] at hnew
      have e1 : (s.data.map fun b => Value.int .u8 b.toNat) = (Lib.strCells s).toArray := by apply Array.ext'; simp [Lib.strCells]
      rw [e1] at hr
      exact ⟨_, _, hr, hnew, grow _, .inr rfl⟩
  · by_cases hroom : xs.length + s.size ≤ cap
    · have hr := Lib.run_append_room_string (P := P) w t u ty e i ht hu hi hz1 g xs.length cap cur hh s hroom (by simp at hs; omega)
      refine ⟨_, _, hr, ?_, ⟨rfl, rfl, rfl, by simp, fun k _ hk => setRow_other w g k _ (fun q => hk (by simp [Value.ownBlock, q]))⟩, .inl rfl⟩
      refine ⟨by omega, .inr ⟨g, cap, _, by rw [hlen], Nat.zero_le _, setRow_heap w g cur _ e _ hh, by rw [hlen]; exact hroom, hm, ?_, ?_⟩⟩
      · simp only [List.size_toArray, List.length_append, List.length_take, List.length_drop, Array.length_toList, Lib.strCells_length]; simp at hs; omega
      · have ht' : cur.toList.take xs.length = xs := by simpa using htk
        rw [ht', strCells_u8s, Nat.mul_one]
        exact List.take_left
    · have holds : ∀ j y, xs[j]? = some y → w.cell? ((⟨g, 0, none⟩ : Addr).add j) = some y := World.ownsRow.cells hv (g := g) rfl
      have hr := Lib.run_append_grow_string (P := P) w t u ty e i (.int .u8 0) ht hu hi hz0 ⟨g, 0, none⟩ xs.length cap xs (by rw [hz1]; omega) holds s (by omega) (by omega) (by rw [hz2]; exact growslice_fits (by omega) (by omega))
      exact ⟨_, _, hr, new cap (by omega), grow _, .inr rfl⟩

variable {ops : Array Oper} {o : Oper} {a : Act} {w : World} {K : Act → World → Prop} {Q : Exit → Act → World → Prop} {E : Prop}

/-- At a step of a region that draws its order. -/
theorem step_append_row (hg : o.guard = none) (s x : Operand) (t e : TypeId) (z : Value) (bytes : Nat) (ho : o.op = .call { callee := .builtin .append, args := #[s, x], argTypes := #[t, t] })
    (ht : P.underlying t = some (.slice e)) (hinfo : (P.info? e).map (fun i => (i.zero, i.size, i.bytes)) = some (some z, 1, bytes)) (hz : z.cells.size = 1)
    (v u : Value) (xs ys : List Value) (hs : a.eval s = v) (hx : a.eval x = u) (hv : Row w e v xs) (hu : Row w e u ys) (h1 : ∀ y ∈ ys, y.oneCell' = true)
    (hl : xs.length + ys.length ≤ 140737488355328) (hlb : (xs.length + ys.length) * bytes ≤ 140737488355328)
    (h : ∀ v' w', Row w' e v' (xs ++ ys) → w.grownBy w' v.ownBlock → (v'.ownBlock = v.ownBlock ∨ v'.ownBlock = some w.heap.size) → K (a.put o.dst v') w') :
    if Region.wanted o (yielded ops a.tmps) = true then Oper.wp P o a w K Q else E := by
  rw [if_pos (by simp [Region.wanted, hg])]
  obtain ⟨v', w', hr, h2, h3, h4⟩ := run_append_row (P := P) w t o.type e z bytes ht hinfo hz v u xs ys hv hu h1 hl hlb
  unfold Oper.wp execOp
  simp only [ho, resolve, invoke, builtin, Sem.run_bind, Sem.run_pure, Result.andThen_ok, List.map_toArray, List.map_cons, List.map_nil, hs, hx, hr]
  exact h v' w' h2 h3 h4
theorem step_append_str (hg : o.guard = none) (s x : Operand) (t u e : TypeId) (ho : o.op = .call { callee := .builtin .append, args := #[s, x], argTypes := #[t, u] })
    (ht : P.underlying t = some (.slice e)) (hu : P.underlying u = some .string) (hinfo : (P.info? e).map (fun i => (i.zero, i.size, i.bytes)) = some (some (.int .u8 0), 1, 1))
    (v : Value) (xs : List Value) (q : ByteArray) (hs : a.eval s = v) (hx : a.eval x = .string q) (hv : Row w e v xs)
    (hl : xs.length + q.size ≤ 140737488355328)
    (h : ∀ v' w', Row w' e v' (xs ++ u8s q.data.toList) → w.grownBy w' v.ownBlock → (v'.ownBlock = v.ownBlock ∨ v'.ownBlock = some w.heap.size) → K (a.put o.dst v') w') :
    if Region.wanted o (yielded ops a.tmps) = true then Oper.wp P o a w K Q else E := by
  rw [if_pos (by simp [Region.wanted, hg])]
  obtain ⟨v', w', hr, h2, h3, h4⟩ := run_append_str (P := P) w t u o.type e ht hu hinfo v xs q hv hl
  unfold Oper.wp execOp
  simp only [ho, resolve, invoke, builtin, Sem.run_bind, Sem.run_pure, Result.andThen_ok, List.map_toArray, List.map_cons, List.map_nil, hs, hx, hr]
  exact h v' w' h2 h3 h4
end

theorem u8s_oneCell (l : List UInt8) : ∀ u ∈ u8s l, u.oneCell' = true := by
  intro u hu
  simp only [u8s, List.mem_map] at hu
  obtain ⟨b, _, rfl⟩ := hu
  rfl

/-- string(v), v a row of bytes. -/
theorem run_string_row {P : Program} {w : World} {src e dst : TypeId} (hs : P.underlying src = some (.slice e)) (he : P.underlying e = some (.int .u8)) (hd : P.underlying dst = some .string)
    {v : Value} {l : List UInt8} (h : Row w e v (u8s l)) : (convert src dst v).run P w = .ok (.string (str l)) w := by
  rcases h.nil_or with ⟨rfl, h0⟩ | ⟨g, cap, rfl, hc, hm, hcell, hfz⟩
  · obtain rfl : l = [] := by simpa [u8s] using h0
    exact run_convert_bytes_nil w src e hs he 0 0 dst hd
  · rw [run_convert_bytes_arg w src e hs he g 0 (u8s l).length cap (l.map fun b => (b.toNat : Int)) (by simp [u8s]) (fun i hi => ?_) dst hd]
    · congr 2
      simp [strOfNums, str, Function.comp_def]
    · rw [Nat.zero_add]
      refine hcell i _ ?_
      have : i < l.length := by simpa [u8s] using hi
      simp [u8s, this]
end Go.Proofs.YtopajmbblemopaaGreatDoor
