/-
  The law's 'small', 'does': what they answer.
-/
import Derived.Test.YtjmddbhbibmjdaaActs3
namespace Go.Proofs.Ytjmddbhbibmjdaa
set_option linter.unusedVariables false
set_option linter.unusedSimpArgs false
open Go.RowKit

def tot (l : List Act) (k : Nat) : Nat := ((l.take k).map (·.s.size)).sum
theorem tot_succ (l : List Act) (k : Nat) (a : Act) (h : l[k]? = some a) : tot l (k + 1) = tot l k + a.s.size := by
  unfold tot
  rw [List.take_add_one, h]
  simp
theorem tot_le (l : List Act) (k j : Nat) (a : Act) (h : l[j]? = some a) (hj : j < k) : a.s.size ≤ tot l k := by
  induction k with
  | zero => omega
  | succ k ih =>
    rcases Nat.lt_or_ge j k with h1 | h1
    · have := ih h1
      cases hk : l[k]? with
      | none =>
        unfold tot at *
        rw [List.take_add_one, hk]
        simpa using this
      | some b => rw [tot_succ l k b hk]; omega
    · obtain rfl : j = k := by omega
      rw [tot_succ l j a h]; omega

def SmallPost (l : List Act) (w : World) (e : Ending) (w' : World) : Prop := ∃ b, e = .returned (.bool b) ∧ (b = true → l.length ≤ 60 ∧ ∀ a ∈ l, a.s.size ≤ 20000) ∧ w = w'

set_option maxHeartbeats 800000 in
theorem small_any (A : Option Addr) (l : List Act) (cap : Nat) (w : World) (hA : ActsAt w A l) (hlen : l.length ≤ 140737488351232) :
    Calls Try.prog 20 #[.slice A l.length cap] w (SmallPost l w) := by
  have HA := hd hA
  clear hA
  go_enter Try.func20, Try.ntmps20
  go_wp2
  go_loop [3, 4] (fun n i => ∃ k : Nat, k ≤ l.length ∧ k ≤ 61 ∧ tot l k ≤ 140737488400000 ∧ i = .int .i64 k ∧ n = .int .i64 (tot l k)) (fun _ i => 61 - (intOf i).toNat)
  case atStart => exact ⟨0, by omega, by omega, by simp [tot], rfl, rfl⟩
  case round =>
    obtain ⟨k, hk, h61, ht, rfl, rfl⟩ := hrel
    by_cases hlt : k < l.length ∧ k ≤ 60 ∧ tot l k ≤ 20000
    · obtain ⟨h1, h2, h3⟩ := hlt
      obtain ⟨b, off, rfl⟩ := HA.out.addr (by intro h; rw [h] at h1; simp at h1)
      obtain ⟨a, ha⟩ : ∃ a, l[k]? = some a := ⟨_, List.getElem?_eq_getElem h1⟩
      have hc : w.cell? ⟨b, off + k * 7 + 2, none⟩ = some (.string a.s) := by
        have := HA.out.cell b off k 2 a _ rfl ha rfl
        rwa [← Nat.add_assoc] at this
      have hs := (HA.out.ok a (List.mem_of_getElem? ha)).s
      have HT := hd (tot_succ l k a ha)
      clear ha
      generalize tot l k = m at *
      go_wp2
      go_round
      case rel => exact ⟨k + 1, by omega, by omega, by rw [HT.out]; omega, by go_num, by rw [HT.out]; go_num⟩
      case measure => simp [intOf]; omega
    · by_cases h1 : k < l.length
      · by_cases h2 : k ≤ 60
        · have h3 : ¬ tot l k ≤ 20000 := fun h => hlt ⟨h1, h2, h⟩
          clear hlt
          generalize tot l k = m at *
          go_wp2
          all_goals
            go_ret
            exact ⟨_, rfl, fun h => by simp at h <;> omega, rfl⟩
        · clear hlt
          generalize tot l k = m at *
          go_wp2
          all_goals
            go_ret
            exact ⟨_, rfl, fun h => by simp at h <;> omega, rfl⟩
      · obtain rfl : k = l.length := by omega
        have HT := hd (fun j a (hj : l[j]? = some a) => tot_le l l.length j a hj (List.getElem?_eq_some_iff.1 hj).1)
        clear hlt
        generalize tot l l.length = m at *
        by_cases h6 : l.length ≤ 60
        · by_cases h7 : m ≤ 20000
          · go_wp2
            go_ret
            refine ⟨_, rfl, fun _ => ⟨h6, fun a ha => ?_⟩, rfl⟩
            obtain ⟨j, hj⟩ := List.getElem?_of_mem ha
            exact Nat.le_trans (HT.out j a hj) h7
          · go_wp2
            go_ret
            exact ⟨_, rfl, fun h => by simp at h <;> omega, rfl⟩
        · go_wp2
          all_goals
            go_ret
            exact ⟨_, rfl, fun h => by simp at h <;> omega, rfl⟩
end Go.Proofs.Ytjmddbhbibmjdaa
