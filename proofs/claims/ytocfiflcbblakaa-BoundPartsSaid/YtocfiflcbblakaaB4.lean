/-
  Join and Cut, the program's and the document's.
-/
import Derived.Test.YtocfiflcbblakaaB3
namespace Go.Proofs.Ytocfiflcbblakaa
set_option linter.unusedVariables false
set_option linter.unusedSimpArgs false
open Go.RowKit

theorem one_cells {w w' : World} {f t : Value} {T : TypeId} (h : Up (w.alloc (.cells #[f, t] T)) w') :
    w'.cell? ⟨w.heap.size, 0, none⟩ = some f ∧ w'.cell? ⟨w.heap.size, 1, none⟩ = some t := (Two.made w f t T).up h
theorem one_up {w w' : World} {o : Obj} (h : Up (w.alloc o) w') : Up w w' := (Up.made w o).trans h
theorem three {w w' : World} {f t g u x y : Value} {T : TypeId} (h : Up (((w.alloc (.cells #[f, t] T)).alloc (.cells #[g, u] T)).alloc (.cells #[x, y] T)) w') :
    Blk w' w.heap.size [f, t] T ∧ Blk w' (w.heap.size + 1) [g, u] T ∧ Blk w' (w.heap.size + 1 + 1) [x, y] T := by
  have k := Chg.of_below h (fun _ => False)
  have b2 := Blk.new (w.alloc (.cells #[f, t] T)) [g, u] T
  have b3 := Blk.new ((w.alloc (.cells #[f, t] T)).alloc (.cells #[g, u] T)) [x, y] T
  simp only [World.size_alloc] at b2 b3
  exact ⟨(((Blk.new w [f, t] T).alloc _).alloc _).chg k id, (b2.alloc _).chg k id, b3.chg k id⟩
theorem three_up {w w' : World} {o o' o'' : Obj} (h : Up (((w.alloc o).alloc o').alloc o'') w') : Up w w' := (((Up.made w o).alloc o').alloc o'').trans h
theorem Up.set {w w' : World} (h : Up w w') {p : Addr} (hp : w.heap.size ≤ p.block) (u : Value) : Up w (w'.setCell p u) := Below.setCell h hp u
theorem results_cell_tmp {fn : Func} {a t u : Nat} {P : Program} {tmps : Array Value} {w : World} {A : Addr} {v : Value} (h : fn.results = #[.cell a t, .tmp u]) (hp : tmps.getD a undef = .pointer (some A)) (hl : (loadVar t A).run P w = .ok v w) :
    (results fn tmps).run P w = .ok (.tuple #[v, tmps.getD u undef]) w := by
  have hp' : tmps[a]?.getD undef = .pointer (some A) := by simpa using hp
  simp [results, h, hp', hl, asAddr]
theorem results_cell {fn : Func} {a t : Nat} {P : Program} {tmps : Array Value} {w : World} {A : Addr} {v : Value} (h : fn.results = #[.cell a t]) (hp : tmps.getD a undef = .pointer (some A)) (hl : (loadVar t A).run P w = .ok v w) :
    (results fn tmps).run P w = .ok v w := by
  have hp' : tmps[a]?.getD undef = .pointer (some A) := by simpa using hp
  simp [results, h, hp', hl, asAddr]
theorem results_cell2_tmp {fn : Func} {a t a' t' u : Nat} {P : Program} {tmps : Array Value} {w : World} {A A' : Addr} {v v' : Value} (h : fn.results = #[.cell a t, .cell a' t', .tmp u]) (hp : tmps.getD a undef = .pointer (some A)) (hl : (loadVar t A).run P w = .ok v w)
    (hp2 : tmps.getD a' undef = .pointer (some A')) (hl2 : (loadVar t' A').run P w = .ok v' w) :
    (results fn tmps).run P w = .ok (.tuple #[v, v', tmps.getD u undef]) w := by
  have hp' : tmps[a]?.getD undef = .pointer (some A) := by simpa using hp
  have hp2' : tmps[a']?.getD undef = .pointer (some A') := by simpa using hp2
  simp [results, h, hp', hl, hp2', hl2, asAddr]
theorem load_bound {N : Nat} {x y : Value} {T : TypeId} {W : World} (h : Blk W N [x, y] T) (hx : ∃ s, x = .string s) (hy : ∃ s, y = .string s) : (loadVar 23 ⟨N, 0, none⟩).run Try.prog W = .ok (.agg #[x, y]) W := by
  have h1 := h.cell 0
  have h2 := h.cell 1
  obtain ⟨s, rfl⟩ := hx
  obtain ⟨s', rfl⟩ := hy
  simp only [List.getElem?_cons_zero, List.getElem?_cons_succ] at h1 h2
  clear h
  go_simp
theorem join_t {f t g u : ByteArray} (h : nextL f.toList t.toList g.toList u.toList = true) (w : World) : Calls Try.prog 15 #[.agg #[.string f, .string t], .agg #[.string g, .string u]] w fun e w' => e = .returned (.tuple #[.agg #[.string f, .string u], .int .i64 0]) ∧ Up w w' := by
  have B := next_any f t g u
  rw [h] at B
  have B := hd B
  clear h
  go_enter Try.func15, Try.ntmps15
  go_wp2_with (go_at_call 18; refine (B.out _).mono ?_; rintro e w1 ⟨rfl, hu⟩; obtain ⟨b1, b2, b3⟩ := three hu; have c1 := b1.cell 0; have c4 := b2.cell 1; have c5 := b3.cell 0; have c6 := b3.cell 1; have q5 := b3.frozen 0; have q6 := b3.frozen 1; simp only [List.getElem?_cons_zero, List.getElem?_cons_succ] at c1 c4 c5 c6)
  refine bodyPost_ret (results_cell_tmp rfl rfl (load_bound ((b3.set 0 (.string f)).set 1 (.string u)) ⟨_, rfl⟩ ⟨_, rfl⟩)) rfl ⟨rfl, ?_⟩
  exact ((three_up hu).set (p := ⟨w.heap.size + 1 + 1, 0, none⟩) (by show _ ≤ w.heap.size + 1 + 1; omega) _).set (p := ⟨w.heap.size + 1 + 1, 1, none⟩) (by show _ ≤ w.heap.size + 1 + 1; omega) _
theorem join_f {f t g u : ByteArray} (h : nextL f.toList t.toList g.toList u.toList = false) (w : World) : Calls Try.prog 15 #[.agg #[.string f, .string t], .agg #[.string g, .string u]] w fun e w' => e = .returned (.tuple #[.agg #[.string ⟨#[]⟩, .string ⟨#[]⟩], .int .i64 20]) ∧ Up w w' := by
  have B := next_any f t g u
  rw [h] at B
  have B := hd B
  clear h
  go_enter Try.func15, Try.ntmps15
  go_wp2_with (go_at_call 18; refine (B.out _).mono ?_; rintro e w1 ⟨rfl, hu⟩; obtain ⟨b1, b2, b3⟩ := three hu; have c1 := b1.cell 0; have c4 := b2.cell 1; have c5 := b3.cell 0; have c6 := b3.cell 1; have q5 := b3.frozen 0; have q6 := b3.frozen 1; simp only [List.getElem?_cons_zero, List.getElem?_cons_succ] at c1 c4 c5 c6)
  refine bodyPost_ret (results_cell_tmp rfl rfl (load_bound ((b3.set 0 (.string ⟨#[]⟩)).set 1 (.string ⟨#[]⟩)) ⟨_, rfl⟩ ⟨_, rfl⟩)) rfl ⟨rfl, ?_⟩
  exact ((three_up hu).set (p := ⟨w.heap.size + 1 + 1, 0, none⟩) (by show _ ≤ w.heap.size + 1 + 1; omega) _).set (p := ⟨w.heap.size + 1 + 1, 1, none⟩) (by show _ ≤ w.heap.size + 1 + 1; omega) _
theorem rjoin_t {f t g u : ByteArray} (h : nextL f.toList t.toList g.toList u.toList = true) (w : World) : Calls Try.prog 16 #[.agg #[.string f, .string t], .agg #[.string g, .string u]] w fun e w' => e = .returned (.tuple #[.agg #[.string f, .string u], .int .i64 0]) ∧ Up w w' := by
  have B := rnext_any f t g u
  rw [h] at B
  have B := hd B
  clear h
  go_enter Try.func16, Try.ntmps16
  go_wp2_with (go_at_call 19; refine (B.out _).mono ?_; rintro e w1 ⟨rfl, hu⟩; obtain ⟨b1, b2, b3⟩ := three hu; have c1 := b1.cell 0; have c4 := b2.cell 1; have c5 := b3.cell 0; have c6 := b3.cell 1; have q5 := b3.frozen 0; have q6 := b3.frozen 1; simp only [List.getElem?_cons_zero, List.getElem?_cons_succ] at c1 c4 c5 c6)
  refine bodyPost_ret (results_cell_tmp rfl rfl (load_bound ((b3.set 0 (.string f)).set 1 (.string u)) ⟨_, rfl⟩ ⟨_, rfl⟩)) rfl ⟨rfl, ?_⟩
  exact ((three_up hu).set (p := ⟨w.heap.size + 1 + 1, 0, none⟩) (by show _ ≤ w.heap.size + 1 + 1; omega) _).set (p := ⟨w.heap.size + 1 + 1, 1, none⟩) (by show _ ≤ w.heap.size + 1 + 1; omega) _
theorem rjoin_f {f t g u : ByteArray} (h : nextL f.toList t.toList g.toList u.toList = false) (w : World) : Calls Try.prog 16 #[.agg #[.string f, .string t], .agg #[.string g, .string u]] w fun e w' => e = .returned (.tuple #[.agg #[.string ⟨#[]⟩, .string ⟨#[]⟩], .int .i64 20]) ∧ Up w w' := by
  have B := rnext_any f t g u
  rw [h] at B
  have B := hd B
  clear h
  go_enter Try.func16, Try.ntmps16
  go_wp2_with (go_at_call 19; refine (B.out _).mono ?_; rintro e w1 ⟨rfl, hu⟩; obtain ⟨b1, b2, b3⟩ := three hu; have c1 := b1.cell 0; have c4 := b2.cell 1; have c5 := b3.cell 0; have c6 := b3.cell 1; have q5 := b3.frozen 0; have q6 := b3.frozen 1; simp only [List.getElem?_cons_zero, List.getElem?_cons_succ] at c1 c4 c5 c6)
  refine bodyPost_ret (results_cell_tmp rfl rfl (load_bound ((b3.set 0 (.string ⟨#[]⟩)).set 1 (.string ⟨#[]⟩)) ⟨_, rfl⟩ ⟨_, rfl⟩)) rfl ⟨rfl, ?_⟩
  exact ((three_up hu).set (p := ⟨w.heap.size + 1 + 1, 0, none⟩) (by show _ ≤ w.heap.size + 1 + 1; omega) _).set (p := ⟨w.heap.size + 1 + 1, 1, none⟩) (by show _ ≤ w.heap.size + 1 + 1; omega) _
theorem cut_eq (f t k : Bs) : cutL f t k = (okL f t && keyL k && hasL f t k && !(k == f)) := by
  unfold cutL hasL
  rcases ord_tri f k with h | h | h
  · have n : ¬ k < f := fun q => ord_irr _ (ord_trans h q)
    have m : ¬ k = f := fun q => by subst q; exact ord_irr _ h
    simp [h, n, m]
  · subst h
    simp [ord_irr]
  · have n : ¬ f < k := fun q => ord_irr _ (ord_trans h q)
    simp [h, n]
end Go.Proofs.Ytocfiflcbblakaa
