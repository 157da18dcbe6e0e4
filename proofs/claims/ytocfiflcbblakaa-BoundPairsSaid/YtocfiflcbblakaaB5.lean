/-
  Cut, the program's and the document's.
-/
import Derived.Test.YtocfiflcbblakaaB4
namespace Go.Proofs.Ytocfiflcbblakaa
set_option linter.unusedVariables false
set_option linter.unusedSimpArgs false
open Go.RowKit

theorem key_of {k : ByteArray} {b : Bool} (h : keyL k.toList = b) (w : World) : Calls Try.prog 30 #[.string k] w fun e w' => e = .returned (.int .i64 (err20 b)) ∧ w = w' := h ▸ key_any k w
theorem check_of {f t : ByteArray} {b : Bool} (h : okL f.toList t.toList = b) (w : World) : Calls Try.prog 29 #[.agg #[.string f, .string t]] w fun e w' => e = .returned (.int .i64 (err20 b)) ∧ Up w w' := h ▸ check_any f t w
theorem ends_of {f t k : ByteArray} {b : Bool} (h : endsL t.toList k.toList = b) (w : World) : Calls Try.prog 38 #[.agg #[.string f, .string t], .string k] w fun e w' => e = .returned (.bool b) ∧ Up w w' := h ▸ ends_any f t k w
theorem rkey_of {k : ByteArray} {b : Bool} (h : keyL k.toList = b) (w : World) : Calls Try.prog 31 #[.string k] w fun e w' => e = .returned (.bool b) ∧ w = w' := h ▸ rkey_any k w
theorem rhas_of {f t k : ByteArray} {b : Bool} (h : hasL f.toList t.toList k.toList = b) (w : World) : Calls Try.prog 33 #[.agg #[.string f, .string t], .string k] w fun e w' => e = .returned (.bool b) ∧ Up w w' := h ▸ rhas_any f t k w
set_option maxHeartbeats 800000 in
theorem cut_t {f t k : ByteArray} (h : cutL f.toList t.toList k.toList = true) (w : World) : Calls Try.prog 13 #[.agg #[.string f, .string t], .string k] w fun e w' => e = .returned (.tuple #[.agg #[.string f, .string k], .agg #[.string k, .string t], .int .i64 0]) ∧ Up w w' := by
  unfold cutL at h
  simp only [Bool.and_eq_true, decide_eq_true_eq] at h
  obtain ⟨⟨⟨h1, h2⟩, h3⟩, h4⟩ := h
  have B1 := hd (check_of h1)
  have B2 := hd (key_of h2)
  have B3 := hd (ends_of (f := f) h4)
  have r1 := less_rule
  have r2 := ord_le
  clear h1 h2 h4
  rw [err20_t] at B1 B2
  go_enter Try.func13, Try.ntmps13
  go_wp2_with (first | (go_at_call 29; refine (B1.out _).mono ?_; rintro e w1 ⟨rfl, hu⟩; obtain ⟨b1, b2, b3⟩ := three hu; have c1 := b1.cell 0; have c2 := b1.cell 1; simp only [List.getElem?_cons_zero, List.getElem?_cons_succ] at c1 c2) | (go_at_call 30; refine (B2.out _).mono ?_; rintro e w2 ⟨rfl, rfl⟩) | (go_at_call 38; refine (B3.out _).mono ?_; rintro e w2 ⟨rfl, hu2⟩; replace hu := hu.trans hu2; clear c1 c2 b1 b2 b3))
  try clear c1 c2 b1 b2 b3
  obtain ⟨b1, b2, b3⟩ := three hu
  have c1 := b1.cell 0
  have c2 := b1.cell 1
  have c3 := b2.cell 0
  have c4 := b2.cell 1
  have c5 := b3.cell 0
  have c6 := b3.cell 1
  have q3 := b2.frozen 0
  have q4 := b2.frozen 1
  have q5 := b3.frozen 0
  have q6 := b3.frozen 1
  simp only [List.getElem?_cons_zero, List.getElem?_cons_succ] at c1 c2 c3 c4 c5 c6
  try clear r1 r2
  go_region
  have HL := hd ((((b2.set 0 (.string f)).set 1 (.string k)).other (p := ⟨w.heap.size + 1 + 1, 0, none⟩) (by show _ ≠ w.heap.size + 1 + 1; omega) (.string k)).other (p := ⟨w.heap.size + 1 + 1, 1, none⟩) (by show _ ≠ w.heap.size + 1 + 1; omega) (.string t)).drew
  have HR := hd ((((b3.other (p := ⟨w.heap.size + 1, 0, none⟩) (by show _ ≠ w.heap.size + 1; omega) (.string f)).other (p := ⟨w.heap.size + 1, 1, none⟩) (by show _ ≠ w.heap.size + 1; omega) (.string k)).set 0 (.string k)).set 1 (.string t)).drew
  have HU := hd (((((three_up hu).set (p := ⟨w.heap.size + 1, 0, none⟩) (by show _ ≤ w.heap.size + 1; omega) (.string f)).set (p := ⟨w.heap.size + 1, 1, none⟩) (by show _ ≤ w.heap.size + 1; omega) (.string k)).set (p := ⟨w.heap.size + 1 + 1, 0, none⟩) (by show _ ≤ w.heap.size + 1 + 1; omega) (.string k)).set (p := ⟨w.heap.size + 1 + 1, 1, none⟩) (by show _ ≤ w.heap.size + 1 + 1; omega) (.string t)).drew
  clear c1 c2 c3 c4 c5 c6 q3 q4 q5 q6 b1 b2 b3
  go_wp2
  exact bodyPost_ret (results_cell2_tmp rfl rfl (load_bound HL.out ⟨_, rfl⟩ ⟨_, rfl⟩) rfl (load_bound HR.out ⟨_, rfl⟩ ⟨_, rfl⟩)) rfl ⟨rfl, HU.out⟩

set_option maxHeartbeats 1600000 in
theorem cut_f {f t k : ByteArray} (h : cutL f.toList t.toList k.toList = false) (w : World) : Calls Try.prog 13 #[.agg #[.string f, .string t], .string k] w fun e w' => e = .returned (.tuple #[.agg #[.string ⟨#[]⟩, .string ⟨#[]⟩], .agg #[.string ⟨#[]⟩, .string ⟨#[]⟩], .int .i64 20]) ∧ Up w w' := by
  unfold cutL at h
  have r1 := less_rule
  have r2 := ord_le
  cases h1 : okL f.toList t.toList with
  | false =>
    have B1 := hd (check_of h1)
    rw [err20_f] at B1
    clear h1 h
    go_enter Try.func13, Try.ntmps13
    go_wp2_with (go_at_call 29; refine (B1.out _).mono ?_; rintro e w1 ⟨rfl, hu⟩; obtain ⟨b1, b2, b3⟩ := three hu; have c1 := b1.cell 0; have c2 := b1.cell 1; simp only [List.getElem?_cons_zero, List.getElem?_cons_succ] at c1 c2)
    try clear c1 c2 b1 b2 b3
    obtain ⟨b1, b2, b3⟩ := three hu
    have c1 := b1.cell 0
    have c2 := b1.cell 1
    have c3 := b2.cell 0
    have c4 := b2.cell 1
    have c5 := b3.cell 0
    have c6 := b3.cell 1
    have q3 := b2.frozen 0
    have q4 := b2.frozen 1
    have q5 := b3.frozen 0
    have q6 := b3.frozen 1
    simp only [List.getElem?_cons_zero, List.getElem?_cons_succ] at c1 c2 c3 c4 c5 c6
    try clear r1 r2
    go_region
    have HL := hd ((((b2.set 0 (.string ⟨#[]⟩)).set 1 (.string ⟨#[]⟩)).other (p := ⟨w.heap.size + 1 + 1, 0, none⟩) (by show _ ≠ w.heap.size + 1 + 1; omega) (.string ⟨#[]⟩)).other (p := ⟨w.heap.size + 1 + 1, 1, none⟩) (by show _ ≠ w.heap.size + 1 + 1; omega) (.string ⟨#[]⟩)).drew
    have HR := hd ((((b3.other (p := ⟨w.heap.size + 1, 0, none⟩) (by show _ ≠ w.heap.size + 1; omega) (.string ⟨#[]⟩)).other (p := ⟨w.heap.size + 1, 1, none⟩) (by show _ ≠ w.heap.size + 1; omega) (.string ⟨#[]⟩)).set 0 (.string ⟨#[]⟩)).set 1 (.string ⟨#[]⟩)).drew
    have HU := hd (((((three_up hu).set (p := ⟨w.heap.size + 1, 0, none⟩) (by show _ ≤ w.heap.size + 1; omega) (.string ⟨#[]⟩)).set (p := ⟨w.heap.size + 1, 1, none⟩) (by show _ ≤ w.heap.size + 1; omega) (.string ⟨#[]⟩)).set (p := ⟨w.heap.size + 1 + 1, 0, none⟩) (by show _ ≤ w.heap.size + 1 + 1; omega) (.string ⟨#[]⟩)).set (p := ⟨w.heap.size + 1 + 1, 1, none⟩) (by show _ ≤ w.heap.size + 1 + 1; omega) (.string ⟨#[]⟩)).drew
    clear c1 c2 c3 c4 c5 c6 q3 q4 q5 q6 b1 b2 b3
    go_wp2
    exact bodyPost_ret (results_cell2_tmp rfl rfl (load_bound HL.out ⟨_, rfl⟩ ⟨_, rfl⟩) rfl (load_bound HR.out ⟨_, rfl⟩ ⟨_, rfl⟩)) rfl ⟨rfl, HU.out⟩

  | true =>
  have B1 := hd (check_of h1)
  rw [err20_t] at B1
  rw [h1, Bool.true_and] at h
  clear h1
  cases h2 : keyL k.toList with
  | false =>
    have B2 := hd (key_of h2)
    rw [err20_f] at B2
    clear h2 h
    go_enter Try.func13, Try.ntmps13
    go_wp2_with (first | (go_at_call 29; refine (B1.out _).mono ?_; rintro e w1 ⟨rfl, hu⟩; obtain ⟨b1, b2, b3⟩ := three hu; have c1 := b1.cell 0; have c2 := b1.cell 1; simp only [List.getElem?_cons_zero, List.getElem?_cons_succ] at c1 c2) | (go_at_call 30; refine (B2.out _).mono ?_; rintro e w2 ⟨rfl, rfl⟩))
    try clear c1 c2 b1 b2 b3
    obtain ⟨b1, b2, b3⟩ := three hu
    have c1 := b1.cell 0
    have c2 := b1.cell 1
    have c3 := b2.cell 0
    have c4 := b2.cell 1
    have c5 := b3.cell 0
    have c6 := b3.cell 1
    have q3 := b2.frozen 0
    have q4 := b2.frozen 1
    have q5 := b3.frozen 0
    have q6 := b3.frozen 1
    simp only [List.getElem?_cons_zero, List.getElem?_cons_succ] at c1 c2 c3 c4 c5 c6
    try clear r1 r2
    go_region
    have HL := hd ((((b2.set 0 (.string ⟨#[]⟩)).set 1 (.string ⟨#[]⟩)).other (p := ⟨w.heap.size + 1 + 1, 0, none⟩) (by show _ ≠ w.heap.size + 1 + 1; omega) (.string ⟨#[]⟩)).other (p := ⟨w.heap.size + 1 + 1, 1, none⟩) (by show _ ≠ w.heap.size + 1 + 1; omega) (.string ⟨#[]⟩)).drew
    have HR := hd ((((b3.other (p := ⟨w.heap.size + 1, 0, none⟩) (by show _ ≠ w.heap.size + 1; omega) (.string ⟨#[]⟩)).other (p := ⟨w.heap.size + 1, 1, none⟩) (by show _ ≠ w.heap.size + 1; omega) (.string ⟨#[]⟩)).set 0 (.string ⟨#[]⟩)).set 1 (.string ⟨#[]⟩)).drew
    have HU := hd (((((three_up hu).set (p := ⟨w.heap.size + 1, 0, none⟩) (by show _ ≤ w.heap.size + 1; omega) (.string ⟨#[]⟩)).set (p := ⟨w.heap.size + 1, 1, none⟩) (by show _ ≤ w.heap.size + 1; omega) (.string ⟨#[]⟩)).set (p := ⟨w.heap.size + 1 + 1, 0, none⟩) (by show _ ≤ w.heap.size + 1 + 1; omega) (.string ⟨#[]⟩)).set (p := ⟨w.heap.size + 1 + 1, 1, none⟩) (by show _ ≤ w.heap.size + 1 + 1; omega) (.string ⟨#[]⟩)).drew
    clear c1 c2 c3 c4 c5 c6 q3 q4 q5 q6 b1 b2 b3
    go_wp2
    exact bodyPost_ret (results_cell2_tmp rfl rfl (load_bound HL.out ⟨_, rfl⟩ ⟨_, rfl⟩) rfl (load_bound HR.out ⟨_, rfl⟩ ⟨_, rfl⟩)) rfl ⟨rfl, HU.out⟩

  | true =>
  have B2 := hd (key_of h2)
  rw [err20_t] at B2
  rw [h2, Bool.true_and] at h
  clear h2
  by_cases h3 : f.toList < k.toList
  · have h4 : endsL t.toList k.toList = false := by simpa [h3] using h
    have B3 := hd (ends_of (f := f) h4)
    clear h4 h
    go_enter Try.func13, Try.ntmps13
    go_wp2_with (first | (go_at_call 29; refine (B1.out _).mono ?_; rintro e w1 ⟨rfl, hu⟩; obtain ⟨b1, b2, b3⟩ := three hu; have c1 := b1.cell 0; have c2 := b1.cell 1; simp only [List.getElem?_cons_zero, List.getElem?_cons_succ] at c1 c2) | (go_at_call 30; refine (B2.out _).mono ?_; rintro e w2 ⟨rfl, rfl⟩) | (go_at_call 38; refine (B3.out _).mono ?_; rintro e w2 ⟨rfl, hu2⟩; replace hu := hu.trans hu2; clear c1 c2 b1 b2 b3))
    try clear c1 c2 b1 b2 b3
    obtain ⟨b1, b2, b3⟩ := three hu
    have c1 := b1.cell 0
    have c2 := b1.cell 1
    have c3 := b2.cell 0
    have c4 := b2.cell 1
    have c5 := b3.cell 0
    have c6 := b3.cell 1
    have q3 := b2.frozen 0
    have q4 := b2.frozen 1
    have q5 := b3.frozen 0
    have q6 := b3.frozen 1
    simp only [List.getElem?_cons_zero, List.getElem?_cons_succ] at c1 c2 c3 c4 c5 c6
    try clear r1 r2
    go_region
    have HL := hd ((((b2.set 0 (.string ⟨#[]⟩)).set 1 (.string ⟨#[]⟩)).other (p := ⟨w.heap.size + 1 + 1, 0, none⟩) (by show _ ≠ w.heap.size + 1 + 1; omega) (.string ⟨#[]⟩)).other (p := ⟨w.heap.size + 1 + 1, 1, none⟩) (by show _ ≠ w.heap.size + 1 + 1; omega) (.string ⟨#[]⟩)).drew
    have HR := hd ((((b3.other (p := ⟨w.heap.size + 1, 0, none⟩) (by show _ ≠ w.heap.size + 1; omega) (.string ⟨#[]⟩)).other (p := ⟨w.heap.size + 1, 1, none⟩) (by show _ ≠ w.heap.size + 1; omega) (.string ⟨#[]⟩)).set 0 (.string ⟨#[]⟩)).set 1 (.string ⟨#[]⟩)).drew
    have HU := hd (((((three_up hu).set (p := ⟨w.heap.size + 1, 0, none⟩) (by show _ ≤ w.heap.size + 1; omega) (.string ⟨#[]⟩)).set (p := ⟨w.heap.size + 1, 1, none⟩) (by show _ ≤ w.heap.size + 1; omega) (.string ⟨#[]⟩)).set (p := ⟨w.heap.size + 1 + 1, 0, none⟩) (by show _ ≤ w.heap.size + 1 + 1; omega) (.string ⟨#[]⟩)).set (p := ⟨w.heap.size + 1 + 1, 1, none⟩) (by show _ ≤ w.heap.size + 1 + 1; omega) (.string ⟨#[]⟩)).drew
    clear c1 c2 c3 c4 c5 c6 q3 q4 q5 q6 b1 b2 b3
    go_wp2
    exact bodyPost_ret (results_cell2_tmp rfl rfl (load_bound HL.out ⟨_, rfl⟩ ⟨_, rfl⟩) rfl (load_bound HR.out ⟨_, rfl⟩ ⟨_, rfl⟩)) rfl ⟨rfl, HU.out⟩

  · clear h
    go_enter Try.func13, Try.ntmps13
    go_wp2_with (first | (go_at_call 29; refine (B1.out _).mono ?_; rintro e w1 ⟨rfl, hu⟩; obtain ⟨b1, b2, b3⟩ := three hu; have c1 := b1.cell 0; have c2 := b1.cell 1; simp only [List.getElem?_cons_zero, List.getElem?_cons_succ] at c1 c2) | (go_at_call 30; refine (B2.out _).mono ?_; rintro e w2 ⟨rfl, rfl⟩))
    try clear c1 c2 b1 b2 b3
    obtain ⟨b1, b2, b3⟩ := three hu
    have c1 := b1.cell 0
    have c2 := b1.cell 1
    have c3 := b2.cell 0
    have c4 := b2.cell 1
    have c5 := b3.cell 0
    have c6 := b3.cell 1
    have q3 := b2.frozen 0
    have q4 := b2.frozen 1
    have q5 := b3.frozen 0
    have q6 := b3.frozen 1
    simp only [List.getElem?_cons_zero, List.getElem?_cons_succ] at c1 c2 c3 c4 c5 c6
    try clear r1 r2
    go_region
    have HL := hd ((((b2.set 0 (.string ⟨#[]⟩)).set 1 (.string ⟨#[]⟩)).other (p := ⟨w.heap.size + 1 + 1, 0, none⟩) (by show _ ≠ w.heap.size + 1 + 1; omega) (.string ⟨#[]⟩)).other (p := ⟨w.heap.size + 1 + 1, 1, none⟩) (by show _ ≠ w.heap.size + 1 + 1; omega) (.string ⟨#[]⟩)).drew
    have HR := hd ((((b3.other (p := ⟨w.heap.size + 1, 0, none⟩) (by show _ ≠ w.heap.size + 1; omega) (.string ⟨#[]⟩)).other (p := ⟨w.heap.size + 1, 1, none⟩) (by show _ ≠ w.heap.size + 1; omega) (.string ⟨#[]⟩)).set 0 (.string ⟨#[]⟩)).set 1 (.string ⟨#[]⟩)).drew
    have HU := hd (((((three_up hu).set (p := ⟨w.heap.size + 1, 0, none⟩) (by show _ ≤ w.heap.size + 1; omega) (.string ⟨#[]⟩)).set (p := ⟨w.heap.size + 1, 1, none⟩) (by show _ ≤ w.heap.size + 1; omega) (.string ⟨#[]⟩)).set (p := ⟨w.heap.size + 1 + 1, 0, none⟩) (by show _ ≤ w.heap.size + 1 + 1; omega) (.string ⟨#[]⟩)).set (p := ⟨w.heap.size + 1 + 1, 1, none⟩) (by show _ ≤ w.heap.size + 1 + 1; omega) (.string ⟨#[]⟩)).drew
    clear c1 c2 c3 c4 c5 c6 q3 q4 q5 q6 b1 b2 b3
    go_wp2
    exact bodyPost_ret (results_cell2_tmp rfl rfl (load_bound HL.out ⟨_, rfl⟩ ⟨_, rfl⟩) rfl (load_bound HR.out ⟨_, rfl⟩ ⟨_, rfl⟩)) rfl ⟨rfl, HU.out⟩

set_option maxHeartbeats 800000 in
theorem rcut_t {f t k : ByteArray} (h : cutL f.toList t.toList k.toList = true) (w : World) : Calls Try.prog 14 #[.agg #[.string f, .string t], .string k] w fun e w' => e = .returned (.tuple #[.agg #[.string f, .string k], .agg #[.string k, .string t], .int .i64 0]) ∧ Up w w' := by
  rw [cut_eq] at h
  simp only [Bool.and_eq_true, Bool.not_eq_true'] at h
  obtain ⟨⟨⟨h1, h2⟩, h3⟩, h4⟩ := h
  have B1 := hd (is_of h1)
  have B2 := hd (rkey_of h2)
  have B3 := hd (rhas_of h3)
  clear h1 h2 h3
  go_enter Try.func14, Try.ntmps14
  go_wp2_with (first | (go_at_call 32; refine (B1.out _).mono ?_; rintro e w1 ⟨rfl, hu⟩; obtain ⟨b1, b2, b3⟩ := three hu; have c1 := b1.cell 0; have c2 := b1.cell 1; simp only [List.getElem?_cons_zero, List.getElem?_cons_succ] at c1 c2) | (go_at_call 31; refine (B2.out _).mono ?_; rintro e w2 ⟨rfl, rfl⟩) | (go_at_call 33; refine (B3.out _).mono ?_; rintro e w2 ⟨rfl, hu2⟩; replace hu := hu.trans hu2; clear c1 c2 b1 b2 b3; obtain ⟨b1, b2, b3⟩ := three hu; have c1 := b1.cell 0; have c2 := b1.cell 1; simp only [List.getElem?_cons_zero, List.getElem?_cons_succ] at c1 c2))
  try clear c1 c2 b1 b2 b3
  obtain ⟨b1, b2, b3⟩ := three hu
  have c1 := b1.cell 0
  have c2 := b1.cell 1
  have c3 := b2.cell 0
  have c4 := b2.cell 1
  have c5 := b3.cell 0
  have c6 := b3.cell 1
  have q3 := b2.frozen 0
  have q4 := b2.frozen 1
  have q5 := b3.frozen 0
  have q6 := b3.frozen 1
  simp only [List.getElem?_cons_zero, List.getElem?_cons_succ] at c1 c2 c3 c4 c5 c6
  try clear r1 r2
  go_region
  have HL := hd ((((b2.set 0 (.string f)).set 1 (.string k)).other (p := ⟨w.heap.size + 1 + 1, 0, none⟩) (by show _ ≠ w.heap.size + 1 + 1; omega) (.string k)).other (p := ⟨w.heap.size + 1 + 1, 1, none⟩) (by show _ ≠ w.heap.size + 1 + 1; omega) (.string t)).drew
  have HR := hd ((((b3.other (p := ⟨w.heap.size + 1, 0, none⟩) (by show _ ≠ w.heap.size + 1; omega) (.string f)).other (p := ⟨w.heap.size + 1, 1, none⟩) (by show _ ≠ w.heap.size + 1; omega) (.string k)).set 0 (.string k)).set 1 (.string t)).drew
  have HU := hd (((((three_up hu).set (p := ⟨w.heap.size + 1, 0, none⟩) (by show _ ≤ w.heap.size + 1; omega) (.string f)).set (p := ⟨w.heap.size + 1, 1, none⟩) (by show _ ≤ w.heap.size + 1; omega) (.string k)).set (p := ⟨w.heap.size + 1 + 1, 0, none⟩) (by show _ ≤ w.heap.size + 1 + 1; omega) (.string k)).set (p := ⟨w.heap.size + 1 + 1, 1, none⟩) (by show _ ≤ w.heap.size + 1 + 1; omega) (.string t)).drew
  clear c1 c2 c3 c4 c5 c6 q3 q4 q5 q6 b1 b2 b3
  go_wp2
  exact bodyPost_ret (results_cell2_tmp rfl rfl (load_bound HL.out ⟨_, rfl⟩ ⟨_, rfl⟩) rfl (load_bound HR.out ⟨_, rfl⟩ ⟨_, rfl⟩)) rfl ⟨rfl, HU.out⟩

set_option maxHeartbeats 1600000 in
theorem rcut_f {f t k : ByteArray} (h : cutL f.toList t.toList k.toList = false) (w : World) : Calls Try.prog 14 #[.agg #[.string f, .string t], .string k] w fun e w' => e = .returned (.tuple #[.agg #[.string ⟨#[]⟩, .string ⟨#[]⟩], .agg #[.string ⟨#[]⟩, .string ⟨#[]⟩], .int .i64 20]) ∧ Up w w' := by
  rw [cut_eq] at h
  cases h1 : okL f.toList t.toList with
  | false =>
    have B1 := hd (is_of h1)
    clear h1 h
    go_enter Try.func14, Try.ntmps14
    go_wp2_with (go_at_call 32; refine (B1.out _).mono ?_; rintro e w1 ⟨rfl, hu⟩; obtain ⟨b1, b2, b3⟩ := three hu; have c1 := b1.cell 0; have c2 := b1.cell 1; have c3 := b2.cell 0; have c4 := b2.cell 1; have c5 := b3.cell 0; have c6 := b3.cell 1; have q3 := b2.frozen 0; have q4 := b2.frozen 1; have q5 := b3.frozen 0; have q6 := b3.frozen 1; simp only [List.getElem?_cons_zero, List.getElem?_cons_succ] at c1 c2 c3 c4 c5 c6)
    have HL := hd ((((b2.set 0 (.string ⟨#[]⟩)).set 1 (.string ⟨#[]⟩)).other (p := ⟨w.heap.size + 1 + 1, 0, none⟩) (by show _ ≠ w.heap.size + 1 + 1; omega) (.string ⟨#[]⟩)).other (p := ⟨w.heap.size + 1 + 1, 1, none⟩) (by show _ ≠ w.heap.size + 1 + 1; omega) (.string ⟨#[]⟩))
    have HR := hd ((((b3.other (p := ⟨w.heap.size + 1, 0, none⟩) (by show _ ≠ w.heap.size + 1; omega) (.string ⟨#[]⟩)).other (p := ⟨w.heap.size + 1, 1, none⟩) (by show _ ≠ w.heap.size + 1; omega) (.string ⟨#[]⟩)).set 0 (.string ⟨#[]⟩)).set 1 (.string ⟨#[]⟩))
    have HU := hd (((((three_up hu).set (p := ⟨w.heap.size + 1, 0, none⟩) (by show _ ≤ w.heap.size + 1; omega) (.string ⟨#[]⟩)).set (p := ⟨w.heap.size + 1, 1, none⟩) (by show _ ≤ w.heap.size + 1; omega) (.string ⟨#[]⟩)).set (p := ⟨w.heap.size + 1 + 1, 0, none⟩) (by show _ ≤ w.heap.size + 1 + 1; omega) (.string ⟨#[]⟩)).set (p := ⟨w.heap.size + 1 + 1, 1, none⟩) (by show _ ≤ w.heap.size + 1 + 1; omega) (.string ⟨#[]⟩))
    clear c1 c2 c3 c4 c5 c6 q3 q4 q5 q6 b1 b2 b3
    exact bodyPost_ret (results_cell2_tmp rfl rfl (load_bound HL.out ⟨_, rfl⟩ ⟨_, rfl⟩) rfl (load_bound HR.out ⟨_, rfl⟩ ⟨_, rfl⟩)) rfl ⟨rfl, HU.out⟩

  | true =>
  have B1 := hd (is_of h1)
  rw [h1, Bool.true_and] at h
  clear h1
  cases h2 : keyL k.toList with
  | false =>
    have B2 := hd (rkey_of h2)
    clear h2 h
    go_enter Try.func14, Try.ntmps14
    go_wp2_with (first | (go_at_call 32; refine (B1.out _).mono ?_; rintro e w1 ⟨rfl, hu⟩; obtain ⟨b1, b2, b3⟩ := three hu; have c1 := b1.cell 0; have c2 := b1.cell 1; have c3 := b2.cell 0; have c4 := b2.cell 1; have c5 := b3.cell 0; have c6 := b3.cell 1; have q3 := b2.frozen 0; have q4 := b2.frozen 1; have q5 := b3.frozen 0; have q6 := b3.frozen 1; simp only [List.getElem?_cons_zero, List.getElem?_cons_succ] at c1 c2 c3 c4 c5 c6) | (go_at_call 31; refine (B2.out _).mono ?_; rintro e w2 ⟨rfl, rfl⟩))
    have HL := hd ((((b2.set 0 (.string ⟨#[]⟩)).set 1 (.string ⟨#[]⟩)).other (p := ⟨w.heap.size + 1 + 1, 0, none⟩) (by show _ ≠ w.heap.size + 1 + 1; omega) (.string ⟨#[]⟩)).other (p := ⟨w.heap.size + 1 + 1, 1, none⟩) (by show _ ≠ w.heap.size + 1 + 1; omega) (.string ⟨#[]⟩))
    have HR := hd ((((b3.other (p := ⟨w.heap.size + 1, 0, none⟩) (by show _ ≠ w.heap.size + 1; omega) (.string ⟨#[]⟩)).other (p := ⟨w.heap.size + 1, 1, none⟩) (by show _ ≠ w.heap.size + 1; omega) (.string ⟨#[]⟩)).set 0 (.string ⟨#[]⟩)).set 1 (.string ⟨#[]⟩))
    have HU := hd (((((three_up hu).set (p := ⟨w.heap.size + 1, 0, none⟩) (by show _ ≤ w.heap.size + 1; omega) (.string ⟨#[]⟩)).set (p := ⟨w.heap.size + 1, 1, none⟩) (by show _ ≤ w.heap.size + 1; omega) (.string ⟨#[]⟩)).set (p := ⟨w.heap.size + 1 + 1, 0, none⟩) (by show _ ≤ w.heap.size + 1 + 1; omega) (.string ⟨#[]⟩)).set (p := ⟨w.heap.size + 1 + 1, 1, none⟩) (by show _ ≤ w.heap.size + 1 + 1; omega) (.string ⟨#[]⟩))
    clear c1 c2 c3 c4 c5 c6 q3 q4 q5 q6 b1 b2 b3
    exact bodyPost_ret (results_cell2_tmp rfl rfl (load_bound HL.out ⟨_, rfl⟩ ⟨_, rfl⟩) rfl (load_bound HR.out ⟨_, rfl⟩ ⟨_, rfl⟩)) rfl ⟨rfl, HU.out⟩

  | true =>
  have B2 := hd (rkey_of h2)
  rw [h2, Bool.true_and] at h
  clear h2
  cases h3 : hasL f.toList t.toList k.toList with
  | false =>
    have B3 := hd (rhas_of h3)
    clear h3 h
    go_enter Try.func14, Try.ntmps14
    go_wp2_with (first | (go_at_call 32; refine (B1.out _).mono ?_; rintro e w1 ⟨rfl, hu⟩; obtain ⟨b1, b2, b3⟩ := three hu; have c1 := b1.cell 0; have c2 := b1.cell 1; have c3 := b2.cell 0; have c4 := b2.cell 1; have c5 := b3.cell 0; have c6 := b3.cell 1; have q3 := b2.frozen 0; have q4 := b2.frozen 1; have q5 := b3.frozen 0; have q6 := b3.frozen 1; simp only [List.getElem?_cons_zero, List.getElem?_cons_succ] at c1 c2 c3 c4 c5 c6) | (go_at_call 31; refine (B2.out _).mono ?_; rintro e w2 ⟨rfl, rfl⟩) | (go_at_call 33; refine (B3.out _).mono ?_; rintro e w2 ⟨rfl, hu2⟩; replace hu := hu.trans hu2; clear c1 c2 c3 c4 c5 c6 q3 q4 q5 q6 b1 b2 b3; obtain ⟨b1, b2, b3⟩ := three hu; have c1 := b1.cell 0; have c2 := b1.cell 1; have c3 := b2.cell 0; have c4 := b2.cell 1; have c5 := b3.cell 0; have c6 := b3.cell 1; have q3 := b2.frozen 0; have q4 := b2.frozen 1; have q5 := b3.frozen 0; have q6 := b3.frozen 1; simp only [List.getElem?_cons_zero, List.getElem?_cons_succ] at c1 c2 c3 c4 c5 c6))
    have HL := hd ((((b2.set 0 (.string ⟨#[]⟩)).set 1 (.string ⟨#[]⟩)).other (p := ⟨w.heap.size + 1 + 1, 0, none⟩) (by show _ ≠ w.heap.size + 1 + 1; omega) (.string ⟨#[]⟩)).other (p := ⟨w.heap.size + 1 + 1, 1, none⟩) (by show _ ≠ w.heap.size + 1 + 1; omega) (.string ⟨#[]⟩))
    have HR := hd ((((b3.other (p := ⟨w.heap.size + 1, 0, none⟩) (by show _ ≠ w.heap.size + 1; omega) (.string ⟨#[]⟩)).other (p := ⟨w.heap.size + 1, 1, none⟩) (by show _ ≠ w.heap.size + 1; omega) (.string ⟨#[]⟩)).set 0 (.string ⟨#[]⟩)).set 1 (.string ⟨#[]⟩))
    have HU := hd (((((three_up hu).set (p := ⟨w.heap.size + 1, 0, none⟩) (by show _ ≤ w.heap.size + 1; omega) (.string ⟨#[]⟩)).set (p := ⟨w.heap.size + 1, 1, none⟩) (by show _ ≤ w.heap.size + 1; omega) (.string ⟨#[]⟩)).set (p := ⟨w.heap.size + 1 + 1, 0, none⟩) (by show _ ≤ w.heap.size + 1 + 1; omega) (.string ⟨#[]⟩)).set (p := ⟨w.heap.size + 1 + 1, 1, none⟩) (by show _ ≤ w.heap.size + 1 + 1; omega) (.string ⟨#[]⟩))
    clear c1 c2 c3 c4 c5 c6 q3 q4 q5 q6 b1 b2 b3
    exact bodyPost_ret (results_cell2_tmp rfl rfl (load_bound HL.out ⟨_, rfl⟩ ⟨_, rfl⟩) rfl (load_bound HR.out ⟨_, rfl⟩ ⟨_, rfl⟩)) rfl ⟨rfl, HU.out⟩

  | true =>
    have B3 := hd (rhas_of h3)
    have h4 : (k.toList == f.toList) = true := by rw [h3] at h; simpa using h
    clear h3 h
    go_enter Try.func14, Try.ntmps14
    go_wp2_with (first | (go_at_call 32; refine (B1.out _).mono ?_; rintro e w1 ⟨rfl, hu⟩; obtain ⟨b1, b2, b3⟩ := three hu; have c1 := b1.cell 0; have c2 := b1.cell 1; have c3 := b2.cell 0; have c4 := b2.cell 1; have c5 := b3.cell 0; have c6 := b3.cell 1; have q3 := b2.frozen 0; have q4 := b2.frozen 1; have q5 := b3.frozen 0; have q6 := b3.frozen 1; simp only [List.getElem?_cons_zero, List.getElem?_cons_succ] at c1 c2 c3 c4 c5 c6) | (go_at_call 31; refine (B2.out _).mono ?_; rintro e w2 ⟨rfl, rfl⟩) | (go_at_call 33; refine (B3.out _).mono ?_; rintro e w2 ⟨rfl, hu2⟩; replace hu := hu.trans hu2; clear c1 c2 c3 c4 c5 c6 q3 q4 q5 q6 b1 b2 b3; obtain ⟨b1, b2, b3⟩ := three hu; have c1 := b1.cell 0; have c2 := b1.cell 1; have c3 := b2.cell 0; have c4 := b2.cell 1; have c5 := b3.cell 0; have c6 := b3.cell 1; have q3 := b2.frozen 0; have q4 := b2.frozen 1; have q5 := b3.frozen 0; have q6 := b3.frozen 1; simp only [List.getElem?_cons_zero, List.getElem?_cons_succ] at c1 c2 c3 c4 c5 c6))
    have HL := hd ((((b2.set 0 (.string ⟨#[]⟩)).set 1 (.string ⟨#[]⟩)).other (p := ⟨w.heap.size + 1 + 1, 0, none⟩) (by show _ ≠ w.heap.size + 1 + 1; omega) (.string ⟨#[]⟩)).other (p := ⟨w.heap.size + 1 + 1, 1, none⟩) (by show _ ≠ w.heap.size + 1 + 1; omega) (.string ⟨#[]⟩))
    have HR := hd ((((b3.other (p := ⟨w.heap.size + 1, 0, none⟩) (by show _ ≠ w.heap.size + 1; omega) (.string ⟨#[]⟩)).other (p := ⟨w.heap.size + 1, 1, none⟩) (by show _ ≠ w.heap.size + 1; omega) (.string ⟨#[]⟩)).set 0 (.string ⟨#[]⟩)).set 1 (.string ⟨#[]⟩))
    have HU := hd (((((three_up hu).set (p := ⟨w.heap.size + 1, 0, none⟩) (by show _ ≤ w.heap.size + 1; omega) (.string ⟨#[]⟩)).set (p := ⟨w.heap.size + 1, 1, none⟩) (by show _ ≤ w.heap.size + 1; omega) (.string ⟨#[]⟩)).set (p := ⟨w.heap.size + 1 + 1, 0, none⟩) (by show _ ≤ w.heap.size + 1 + 1; omega) (.string ⟨#[]⟩)).set (p := ⟨w.heap.size + 1 + 1, 1, none⟩) (by show _ ≤ w.heap.size + 1 + 1; omega) (.string ⟨#[]⟩))
    clear c1 c2 c3 c4 c5 c6 q3 q4 q5 q6 b1 b2 b3
    exact bodyPost_ret (results_cell2_tmp rfl rfl (load_bound HL.out ⟨_, rfl⟩ ⟨_, rfl⟩) rfl (load_bound HR.out ⟨_, rfl⟩ ⟨_, rfl⟩)) rfl ⟨rfl, HU.out⟩

end Go.Proofs.Ytocfiflcbblakaa
