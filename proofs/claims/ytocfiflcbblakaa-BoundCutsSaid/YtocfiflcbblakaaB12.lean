/-
  Search, of every text.
-/
import Derived.Test.YtocfiflcbblakaaB11
namespace Go.Proofs.Ytocfiflcbblakaa
set_option linter.unusedVariables false
set_option linter.unusedSimpArgs false
open Go.RowKit
theorem meta_size {l : Int} {k : ByteArray} (hl : l = 1 ∨ l = 2) (hk : k.size ≤ 2000) : (metaL l k).size ≤ 2001 := by
  unfold metaL
  rw [if_neg (by omega)]
  have h1 : (if l = 1 then (⟨#[1]⟩ : ByteArray) else ⟨#[2]⟩).size = 1 := by split <;> rfl
  rw [ByteArray.size_append, h1]
  split
  · decide
  · omega
theorem search_no (l : Int) (k : ByteArray) (h : l < 1 ∨ 2 < l) (w : World) : Calls Try.prog 26 #[.int .i64 l, .string k] w fun e w' => e = .returned (.agg #[.string ⟨#[]⟩, .string ⟨#[]⟩]) ∧ Up w w' := by
  rcases h with h | h
  · go_enter Try.func26, Try.ntmps26
    go_wp2_with (fail)
    exact bodyPost_ret (results_cell rfl rfl (load_bound (Blk.new w [.string (⟨#[]⟩ : ByteArray), .string (⟨#[]⟩ : ByteArray)] 23) ⟨_, rfl⟩ ⟨_, rfl⟩)) rfl ⟨rfl, Up.made _ _⟩
  · have h' : ¬ l < 1 := by omega
    go_enter Try.func26, Try.ntmps26
    go_wp2_with (fail)
    exact bodyPost_ret (results_cell rfl rfl (load_bound (Blk.new w [.string (⟨#[]⟩ : ByteArray), .string (⟨#[]⟩ : ByteArray)] 23) ⟨_, rfl⟩ ⟨_, rfl⟩)) rfl ⟨rfl, Up.made _ _⟩
theorem searche1 (k : ByteArray) (hk : k.size ≤ 2000) (w : World) : Calls Try.prog 26 #[.int .i64 1, .string k] w fun e w' => e = .returned (.agg #[.string (metaL 1 k ++ ⟨#[0]⟩), .string ⟨#[2]⟩]) ∧ Up w w' := by
  have e1 : Utf8.encode 2 = ⟨#[2]⟩ := by kernel_rfl
  have hS := meta_size (l := 1) (k := k) (by omega) hk
  have hM := hd (meta_any 1 k hk)
  generalize metaL 1 k = mm at *
  go_enter Try.func26, Try.ntmps26
  go_wp2_with (go_at_call 24; refine (hM.out _).mono ?_; rintro e w1 ⟨rfl, hu⟩; have hB := hd ((Blk.new w [.string (⟨#[]⟩ : ByteArray), .string (⟨#[]⟩ : ByteArray)] 23).chg (Chg.of_below hu (fun _ => False)) (fun h => h)); have c0 := hB.out.cell 0; have c1 := hB.out.cell 1; have q0 := hB.out.frozen 0; have q1 := hB.out.frozen 1; simp only [List.getElem?_cons_zero, List.getElem?_cons_succ] at c0 c1; have hU := hd hu; clear hu)
  exact bodyPost_ret (results_cell rfl rfl (load_bound ((hB.out.set 0 (.string (mm ++ (⟨#[0]⟩ : ByteArray)))).set 1 (.string (⟨#[2]⟩ : ByteArray))) ⟨_, rfl⟩ ⟨_, rfl⟩)) rfl ⟨rfl, (((Up.made w _).trans hU.out).set (Nat.le_refl _) _).set (Nat.le_refl _) _⟩
theorem searche2 (k : ByteArray) (hk : k.size ≤ 2000) (w : World) : Calls Try.prog 26 #[.int .i64 2, .string k] w fun e w' => e = .returned (.agg #[.string (metaL 2 k ++ ⟨#[0]⟩), .string ⟨#[3]⟩]) ∧ Up w w' := by
  have e1 : Utf8.encode 3 = ⟨#[3]⟩ := by kernel_rfl
  have hS := meta_size (l := 2) (k := k) (by omega) hk
  have hM := hd (meta_any 2 k hk)
  generalize metaL 2 k = mm at *
  go_enter Try.func26, Try.ntmps26
  go_wp2_with (go_at_call 24; refine (hM.out _).mono ?_; rintro e w1 ⟨rfl, hu⟩; have hB := hd ((Blk.new w [.string (⟨#[]⟩ : ByteArray), .string (⟨#[]⟩ : ByteArray)] 23).chg (Chg.of_below hu (fun _ => False)) (fun h => h)); have c0 := hB.out.cell 0; have c1 := hB.out.cell 1; have q0 := hB.out.frozen 0; have q1 := hB.out.frozen 1; simp only [List.getElem?_cons_zero, List.getElem?_cons_succ] at c0 c1; have hU := hd hu; clear hu)
  exact bodyPost_ret (results_cell rfl rfl (load_bound ((hB.out.set 0 (.string (mm ++ (⟨#[0]⟩ : ByteArray)))).set 1 (.string (⟨#[3]⟩ : ByteArray))) ⟨_, rfl⟩ ⟨_, rfl⟩)) rfl ⟨rfl, (((Up.made w _).trans hU.out).set (Nat.le_refl _) _).set (Nat.le_refl _) _⟩
def searchF (l : Int) (k : ByteArray) : ByteArray := if l < 1 ∨ 2 < l then ⟨#[]⟩ else metaL l k ++ ⟨#[0]⟩
def searchT (l : Int) : ByteArray := if l < 1 ∨ 2 < l then ⟨#[]⟩ else if l = 1 then ⟨#[2]⟩ else ⟨#[3]⟩
theorem search_any (l : Int) (k : ByteArray) (hk : k.size ≤ 2000) (w : World) : Calls Try.prog 26 #[.int .i64 l, .string k] w fun e w' => e = .returned (.agg #[.string (searchF l k), .string (searchT l)]) ∧ Up w w' := by
  by_cases h : l < 1 ∨ 2 < l
  · have e1 : searchF l k = ⟨#[]⟩ := if_pos h
    have e2 : searchT l = ⟨#[]⟩ := if_pos h
    rw [e1, e2]
    exact search_no l k h w
  · have e1 : searchF l k = metaL l k ++ ⟨#[0]⟩ := if_neg h
    have : l = 1 ∨ l = 2 := by omega
    rcases this with rfl | rfl
    · rw [e1]
      exact searche1 k hk w
    · rw [e1]
      exact searche2 k hk w
end Go.Proofs.Ytocfiflcbblakaa
