/-
  Lemmas, joined of the texts WSNil XSd0 XSd1 XSd SQ1 Small5 SW0 WSWhole.
-/
import Derived.Test.YtopajmbblemopaaGreatDoorMB28
import Derived.Test.YtopajmbblemopaaGreatDoorProg
import Derived.Test.YtopajmbblemopaaGreatDoorMB1
import Derived.Below
import Derived.Deep.Draws
import Derived.Deep.AppendLies
import Derived.Maps.AppendAt
import Derived.OwnWalk
import Derived.Laws.BytesArg
import Derived.Laws.MakeOwn
import Derived.Laws.OwnMore
import Derived.Deep.OwnRows
import Derived.Tactics
import Derived.Lib.ConvBytes
import Derived.Laws.Slices
import Derived.WalkKit
import Derived.KernelRfl
import Derived.RowKit3
import Derived.Deep.LoopGhost
import Derived.Deep.QuietTactic
import Derived.BigQuiet
import Derived.WideLaws
import Derived.Deep.DeepCutAuto
import Derived.Deep.CutBlock
import Derived.Deep.RegionHeld3
import Derived.Laws.Rows
import Derived.Lib.AppendStr
import Derived.ArgAppend
import Derived.Laws.IdiomCopy
import Derived.OrdersHeld
import Derived.Laws.BitsLemmas
import Derived.RowKit
import Derived.Test.YtopajmbblemopaaGreatDoorMB17
import Derived.Test.YtopajmbblemopaaGreatDoorMB16
import Derived.Test.YtopajmbblemopaaGreatDoorWWords
import Derived.Test.YtopajmbblemopaaGreatDoorWLast
import Derived.Test.YtopajmbblemopaaGreatDoorWTab
import Derived.Test.YtopajmbblemopaaGreatDoorWFour
import Derived.Test.YtopajmbblemopaaGreatDoorWQPut
import Derived.Test.YtopajmbblemopaaGreatDoorWApart
import Derived.Test.YtopajmbblemopaaGreatDoorWArr
import Derived.Test.YtopajmbblemopaaGreatDoorWZeros
import Derived.Test.YtopajmbblemopaaGreatDoorWFoot
import Derived.Test.YtopajmbblemopaaGreatDoorWKept
import Derived.Test.YtopajmbblemopaaGreatDoorWShare
import Derived.Test.YtopajmbblemopaaGreatDoorWN
import Derived.Test.YtopajmbblemopaaGreatDoorWFootNe
import Derived.Test.YtopajmbblemopaaGreatDoorWAt
import Derived.Test.YtopajmbblemopaaGreatDoorWEqStruct
import Derived.Test.YtopajmbblemopaaGreatDoorWRepsOne
import Derived.Test.YtopajmbblemopaaGreatDoorWInv
import Derived.Test.YtopajmbblemopaaGreatDoorWInvWords
import Derived.Test.YtopajmbblemopaaGreatDoorWGuard
import Derived.Test.YtopajmbblemopaaGreatDoorWNEv
import Derived.Test.YtopajmbblemopaaGreatDoorWMore
import Derived.Test.YtopajmbblemopaaGreatDoorMB26
namespace Go.Proofs.YtopajmbblemopaaGreatDoor
set_option linter.unusedVariables false
set_option linter.unusedSimpArgs false
open Go.RowKit
theorem slive_at {w : World} (hG : Gl w) : ∀ w', Below w.heap.size w w' → Calls Tryz.prog 10 #[] w' fun e w2 => e = .returned (.bool true) ∧ Below w.heap.size w w2 := fun w' hb => slive_any w w' hG hb
end Go.Proofs.YtopajmbblemopaaGreatDoor
namespace Go.Proofs.YtopajmbblemopaaGreatDoor.XSd
open Go.RowKit Go.Proofs.YtopajmbblemopaaGreatDoorW.PrintWords Go.Proofs.YtopajmbblemopaaGreatDoorW.PrintLast Go.Proofs.YtopajmbblemopaaGreatDoorW.PrintMore
attribute [local go_sem] max2_int min2_int max_two min_two max_three min_three max_four min_four   -- for this text's walks alone
set_option linter.unusedVariables false
set_option linter.unusedSimpArgs false



def errW : Option Int → Value
  | none => .nilIface
  | some c => .iface 0 (.int .i64 c)
theorem errW_none : errW none = .nilIface := rfl
theorem errW_some (c : Int) : errW (some c) = .iface 0 (.int .i64 c) := rfl

theorem info47 : (Tryz.prog.info? 47).map (fun i => (i.zero, i.size, i.bytes)) = some (some (.agg #[(.string ⟨#[]⟩), (.string ⟨#[]⟩)]), 2, 32) := by kernel_rfl
-- the values' own types
/-! #### struct type 47 -/
structure S47 where
  f0 : ByteArray
  f1 : ByteArray
def z47 : S47 := ⟨(⟨#[]⟩ : ByteArray), (⟨#[]⟩ : ByteArray)⟩
def k47 : Kd S47 := Kd.iso (Kd.pair Kd.string Kd.string) (fun x : S47 => (x.f0, x.f1))
theorem k47_open {w : World} {x : S47} {cs : List Value} (h : k47.K w x cs) : cs = [.string x.f0, .string x.f1] := by
  obtain ⟨_, _, rfl, rfl, rfl⟩ := h
  exact rfl
theorem k47_openM {w : World} {base : Nat} {ok : Nat → Prop} {x : S47} {cs : List Value} (h : k47.M w base ok x cs) : cs = [.string x.f0, .string x.f1] := by
  obtain ⟨_, _, rfl, rfl, rfl⟩ := h
  exact rfl
theorem k47_mkM (w : World) (base : Nat) (ok : Nat → Prop) (x : S47)  : k47.M w base ok x [.string x.f0, .string x.f1] := ⟨[.string x.f0], [.string x.f1], rfl, rfl, rfl⟩
def rd_T47 (xs : List S47) (i : Int) : S47 := xs.getD i.toNat z47
theorem at_T47 {w : World} {A : Option Addr} {n : Nat} {xs : List S47} (h : Kd.C k47 w A n xs) (i : Int) (h0 : 0 ≤ i) (h1 : i < n) : ∃ ad , A = some ad ∧ w.cell? (ad.add (i.toNat * 2)) = some (.string (rd_T47 xs i).f0) ∧ w.cell? ⟨(ad.add (i.toNat * 2)).block, (ad.add (i.toNat * 2)).off + 1, none⟩ = some (.string (rd_T47 xs i).f1) := by
  obtain ⟨ad, c, e, _, hK, hc0⟩ := Kd.C_get h z47 i h0 h1
  have hc : ∀ j u, c[j]? = some u → w.cell? (ad.add (i.toNat * 2 + j)) = some u := hc0
  obtain rfl := k47_open hK
  exact ⟨ad, e, hc 0 _ rfl, by rw [← add_field _ _ 1 (by omega)]; exact hc 1 _ rfl⟩

end Go.Proofs.YtopajmbblemopaaGreatDoor.XSd
namespace Go.Proofs.YtopajmbblemopaaGreatDoor.XSd
open Go.RowKit Go.Proofs.YtopajmbblemopaaGreatDoorW.PrintWords Go.Proofs.YtopajmbblemopaaGreatDoorW.PrintLast Go.Proofs.YtopajmbblemopaaGreatDoorW.PrintMore
attribute [local go_sem] max2_int min2_int max_two min_two max_three min_three max_four min_four   -- for this text's walks alone
set_option linter.unusedVariables false
set_option linter.unusedSimpArgs false

/-! ### furlongref05_Is: function 19 -/
def furlongref05_Is.f (a0_0 : ByteArray) (a0_1 : ByteArray) (a0_2 : Bool) : Option (Bool) := if (a0_0.size : Int) ≥ 1 then (if (a0_0.size : Int) ≤ 128 then (if (a0_1.size : Int) ≤ 262144 then (if a0_2 = true then (some (a0_1.toList == ([] : List UInt8))) else (some true)) else (some false)) else (some false)) else (some false)
set_option maxHeartbeats 8000000 in
set_option maxRecDepth 100000 in
theorem furlongref05_Is.calls (a0_0 : ByteArray) (a0_1 : ByteArray) (a0_2 : Bool) (r : Bool) (w : World) (h : furlongref05_Is.f a0_0 a0_1 a0_2 = some r) :
    Calls Tryz.prog 19 #[.agg #[.string a0_0, .string a0_1, .bool a0_2]] w fun e w' => e = .returned (.bool r) ∧ Below w.heap.size w w' := by
  have hu51 := Tryz.underlying51
  have HB := Aside0.mk (Below.refl w.heap.size w)
  have H : (if (a0_0.size : Int) ≥ 1 then (if (a0_0.size : Int) ≤ 128 then (if (a0_1.size : Int) ≤ 262144 then (if a0_2 = true then (some (a0_1.toList == ([] : List UInt8))) else (some true)) else (some false)) else (some false)) else (some false)) = some r := h
  clear h
  by_cases c2 : (a0_0.size : Int) ≥ 1
  · rw [if_pos c2] at H
    have c2b0 : decide (1 ≤ (a0_0.size : Int)) = true := decide_eq_true c2
    have c2b1 : decide (1 ≤ a0_0.size) = true := decide_eq_true (by omega)
    clear c2
    by_cases c3 : (a0_0.size : Int) ≤ 128
    · rw [if_pos c3] at H
      have c3b0 : decide ((a0_0.size : Int) ≤ 128) = true := decide_eq_true c3
      have c3b1 : decide (a0_0.size ≤ 128) = true := decide_eq_true (by omega)
      clear c3
      by_cases c4 : (a0_1.size : Int) ≤ 262144
      · rw [if_pos c4] at H
        have c4b0 : decide ((a0_1.size : Int) ≤ 262144) = true := decide_eq_true c4
        have c4b1 : decide (a0_1.size ≤ 262144) = true := decide_eq_true (by omega)
        clear c4
        by_cases c5 : a0_2 = true
        · subst c5
          have H1 : (some (a0_1.toList == ([] : List UInt8))) = some r := by rw [if_pos rfl] at H; exact H
          clear H
          have H := H1
          clear H1
          obtain rfl := Option.some.inj H
          go_enter Tryz.func19, Tryz.ntmps19
          go_wp2_with (first | ((with_reducible refine gate_dst (N := 1) rfl ?_); (try (refine gate_guard (by rfl) ?_; dsimp only)); refine box_event ?hg (N := 1) ?hd (cs := #[.string a0_0, .string a0_1, .bool true]) (t := 51) ?hr ?_; (case hd => rfl); (case hg => rfl); (case hr => first | (go_simp; done) | (go_simp; rfl)); intro gb101 hg w6 hbox hb; have n0_ := Aside0.mk (below_step (by repeat (first | (with_reducible first | exact HB.out | apply below_alloc | apply pw_below_drewN | apply below_drew1) | exact HB.out)) hb); have n1_ := Aside0.mk (hbox); have n2_ := Aside0.mk ((by rw [hg]; exact (below_size (by repeat (first | (with_reducible first | exact HB.out | apply below_alloc | apply pw_below_drewN | apply below_drew1) | exact HB.out))) : w.heap.size ≤ gb101)); have n3_ := Aside0.mk ((by rw [hg]; exact (below_size (by repeat (first | (with_reducible first | exact HB.out | apply below_alloc | apply pw_below_drewN | apply below_drew1) | exact HB.out))) : w.heap.size ≤ gb101)); clear HB; have HB := n0_; have BK101 := n1_; have GW101 := n2_; have GE101 := n3_; clear n0_ n1_ n2_ n3_; clear hb hbox hg; have hcz7_0 : w6.cell? ⟨gb101, 0, none⟩ = some (.string a0_0) := (blk_cell BK101.out 0).trans rfl; have hcz7_1 : w6.cell? ⟨gb101, 1, none⟩ = some (.string a0_1) := (blk_cell BK101.out 1).trans rfl; have hcz7_2 : w6.cell? ⟨gb101, 2, none⟩ = some (.bool true) := (blk_cell BK101.out 2).trans rfl; have hfz7_0 := blk_frozen BK101.out 0; have hfz7_1 := blk_frozen BK101.out 1; have hfz7_2 := blk_frozen BK101.out 2))
          go_ret
          exact ⟨by first | rfl | (simp [errW_none, errW_some] <;> rfl) | (simp [*, errW_none, errW_some] <;> rfl), by repeat (first | (with_reducible first | exact HB.out | apply below_alloc | apply pw_below_drewN | apply below_drew1 | refine below_set ?_ GE101.out) | exact HB.out)⟩
        · replace c5 := Bool.eq_false_iff.mpr c5
          subst c5
          have H1 : (some true) = some r := by rw [if_neg (show ¬ (false = true) by decide)] at H; exact H
          clear H
          have H := H1
          clear H1
          obtain rfl := Option.some.inj H
          go_enter Tryz.func19, Tryz.ntmps19
          go_wp2_with (first | ((with_reducible refine gate_dst (N := 1) rfl ?_); (try (refine gate_guard (by rfl) ?_; dsimp only)); refine box_event ?hg (N := 1) ?hd (cs := #[.string a0_0, .string a0_1, .bool false]) (t := 51) ?hr ?_; (case hd => rfl); (case hg => rfl); (case hr => first | (go_simp; done) | (go_simp; rfl)); intro gb101 hg w8 hbox hb; have n0_ := Aside0.mk (below_step (by repeat (first | (with_reducible first | exact HB.out | apply below_alloc | apply pw_below_drewN | apply below_drew1) | exact HB.out)) hb); have n1_ := Aside0.mk (hbox); have n2_ := Aside0.mk ((by rw [hg]; exact (below_size (by repeat (first | (with_reducible first | exact HB.out | apply below_alloc | apply pw_below_drewN | apply below_drew1) | exact HB.out))) : w.heap.size ≤ gb101)); have n3_ := Aside0.mk ((by rw [hg]; exact (below_size (by repeat (first | (with_reducible first | exact HB.out | apply below_alloc | apply pw_below_drewN | apply below_drew1) | exact HB.out))) : w.heap.size ≤ gb101)); clear HB; have HB := n0_; have BK101 := n1_; have GW101 := n2_; have GE101 := n3_; clear n0_ n1_ n2_ n3_; clear hb hbox hg; have hcz9_0 : w8.cell? ⟨gb101, 0, none⟩ = some (.string a0_0) := (blk_cell BK101.out 0).trans rfl; have hcz9_1 : w8.cell? ⟨gb101, 1, none⟩ = some (.string a0_1) := (blk_cell BK101.out 1).trans rfl; have hcz9_2 : w8.cell? ⟨gb101, 2, none⟩ = some (.bool false) := (blk_cell BK101.out 2).trans rfl; have hfz9_0 := blk_frozen BK101.out 0; have hfz9_1 := blk_frozen BK101.out 1; have hfz9_2 := blk_frozen BK101.out 2))
          go_ret
          exact ⟨by first | rfl | (simp [errW_none, errW_some] <;> rfl) | (simp [*, errW_none, errW_some] <;> rfl), by repeat (first | (with_reducible first | exact HB.out | apply below_alloc | apply pw_below_drewN | apply below_drew1 | refine below_set ?_ GE101.out) | exact HB.out)⟩
      · rw [if_neg c4] at H
        have c4b0 : decide ((a0_1.size : Int) ≤ 262144) = false := decide_eq_false c4
        have c4b1 : decide (a0_1.size ≤ 262144) = false := decide_eq_false (by omega)
        clear c4
        obtain rfl := Option.some.inj H
        go_enter Tryz.func19, Tryz.ntmps19
        go_wp2_with (first | ((with_reducible refine gate_dst (N := 1) rfl ?_); (try (refine gate_guard (by rfl) ?_; dsimp only)); refine box_event ?hg (N := 1) ?hd (cs := #[.string a0_0, .string a0_1, .bool a0_2]) (t := 51) ?hr ?_; (case hd => rfl); (case hg => rfl); (case hr => first | (go_simp; done) | (go_simp; rfl)); intro gb101 hg w10 hbox hb; have n0_ := Aside0.mk (below_step (by repeat (first | (with_reducible first | exact HB.out | apply below_alloc | apply pw_below_drewN | apply below_drew1) | exact HB.out)) hb); have n1_ := Aside0.mk (hbox); have n2_ := Aside0.mk ((by rw [hg]; exact (below_size (by repeat (first | (with_reducible first | exact HB.out | apply below_alloc | apply pw_below_drewN | apply below_drew1) | exact HB.out))) : w.heap.size ≤ gb101)); have n3_ := Aside0.mk ((by rw [hg]; exact (below_size (by repeat (first | (with_reducible first | exact HB.out | apply below_alloc | apply pw_below_drewN | apply below_drew1) | exact HB.out))) : w.heap.size ≤ gb101)); clear HB; have HB := n0_; have BK101 := n1_; have GW101 := n2_; have GE101 := n3_; clear n0_ n1_ n2_ n3_; clear hb hbox hg; have hcz11_0 : w10.cell? ⟨gb101, 0, none⟩ = some (.string a0_0) := (blk_cell BK101.out 0).trans rfl; have hcz11_1 : w10.cell? ⟨gb101, 1, none⟩ = some (.string a0_1) := (blk_cell BK101.out 1).trans rfl; have hcz11_2 : w10.cell? ⟨gb101, 2, none⟩ = some (.bool a0_2) := (blk_cell BK101.out 2).trans rfl; have hfz11_0 := blk_frozen BK101.out 0; have hfz11_1 := blk_frozen BK101.out 1; have hfz11_2 := blk_frozen BK101.out 2))
        go_ret
        exact ⟨by first | rfl | (simp [errW_none, errW_some] <;> rfl) | (simp [*, errW_none, errW_some] <;> rfl), by repeat (first | (with_reducible first | exact HB.out | apply below_alloc | apply pw_below_drewN | apply below_drew1 | refine below_set ?_ GE101.out) | exact HB.out)⟩
    · rw [if_neg c3] at H
      have c3b0 : decide ((a0_0.size : Int) ≤ 128) = false := decide_eq_false c3
      have c3b1 : decide (a0_0.size ≤ 128) = false := decide_eq_false (by omega)
      clear c3
      obtain rfl := Option.some.inj H
      go_enter Tryz.func19, Tryz.ntmps19
      go_wp2_with (first | ((with_reducible refine gate_dst (N := 1) rfl ?_); (try (refine gate_guard (by rfl) ?_; dsimp only)); refine box_event ?hg (N := 1) ?hd (cs := #[.string a0_0, .string a0_1, .bool a0_2]) (t := 51) ?hr ?_; (case hd => rfl); (case hg => rfl); (case hr => first | (go_simp; done) | (go_simp; rfl)); intro gb101 hg w12 hbox hb; have n0_ := Aside0.mk (below_step (by repeat (first | (with_reducible first | exact HB.out | apply below_alloc | apply pw_below_drewN | apply below_drew1) | exact HB.out)) hb); have n1_ := Aside0.mk (hbox); have n2_ := Aside0.mk ((by rw [hg]; exact (below_size (by repeat (first | (with_reducible first | exact HB.out | apply below_alloc | apply pw_below_drewN | apply below_drew1) | exact HB.out))) : w.heap.size ≤ gb101)); have n3_ := Aside0.mk ((by rw [hg]; exact (below_size (by repeat (first | (with_reducible first | exact HB.out | apply below_alloc | apply pw_below_drewN | apply below_drew1) | exact HB.out))) : w.heap.size ≤ gb101)); clear HB; have HB := n0_; have BK101 := n1_; have GW101 := n2_; have GE101 := n3_; clear n0_ n1_ n2_ n3_; clear hb hbox hg; have hcz13_0 : w12.cell? ⟨gb101, 0, none⟩ = some (.string a0_0) := (blk_cell BK101.out 0).trans rfl; have hcz13_1 : w12.cell? ⟨gb101, 1, none⟩ = some (.string a0_1) := (blk_cell BK101.out 1).trans rfl; have hcz13_2 : w12.cell? ⟨gb101, 2, none⟩ = some (.bool a0_2) := (blk_cell BK101.out 2).trans rfl; have hfz13_0 := blk_frozen BK101.out 0; have hfz13_1 := blk_frozen BK101.out 1; have hfz13_2 := blk_frozen BK101.out 2))
      go_ret
      exact ⟨by first | rfl | (simp [errW_none, errW_some] <;> rfl) | (simp [*, errW_none, errW_some] <;> rfl), by repeat (first | (with_reducible first | exact HB.out | apply below_alloc | apply pw_below_drewN | apply below_drew1 | refine below_set ?_ GE101.out) | exact HB.out)⟩
  · rw [if_neg c2] at H
    have c2b0 : decide (1 ≤ (a0_0.size : Int)) = false := decide_eq_false c2
    have c2b1 : decide (1 ≤ a0_0.size) = false := decide_eq_false (by omega)
    clear c2
    obtain rfl := Option.some.inj H
    go_enter Tryz.func19, Tryz.ntmps19
    go_wp2_with (first | ((with_reducible refine gate_dst (N := 1) rfl ?_); (try (refine gate_guard (by rfl) ?_; dsimp only)); refine box_event ?hg (N := 1) ?hd (cs := #[.string a0_0, .string a0_1, .bool a0_2]) (t := 51) ?hr ?_; (case hd => rfl); (case hg => rfl); (case hr => first | (go_simp; done) | (go_simp; rfl)); intro gb101 hg w14 hbox hb; have n0_ := Aside0.mk (below_step (by repeat (first | (with_reducible first | exact HB.out | apply below_alloc | apply pw_below_drewN | apply below_drew1) | exact HB.out)) hb); have n1_ := Aside0.mk (hbox); have n2_ := Aside0.mk ((by rw [hg]; exact (below_size (by repeat (first | (with_reducible first | exact HB.out | apply below_alloc | apply pw_below_drewN | apply below_drew1) | exact HB.out))) : w.heap.size ≤ gb101)); have n3_ := Aside0.mk ((by rw [hg]; exact (below_size (by repeat (first | (with_reducible first | exact HB.out | apply below_alloc | apply pw_below_drewN | apply below_drew1) | exact HB.out))) : w.heap.size ≤ gb101)); clear HB; have HB := n0_; have BK101 := n1_; have GW101 := n2_; have GE101 := n3_; clear n0_ n1_ n2_ n3_; clear hb hbox hg; have hcz15_0 : w14.cell? ⟨gb101, 0, none⟩ = some (.string a0_0) := (blk_cell BK101.out 0).trans rfl; have hcz15_1 : w14.cell? ⟨gb101, 1, none⟩ = some (.string a0_1) := (blk_cell BK101.out 1).trans rfl; have hcz15_2 : w14.cell? ⟨gb101, 2, none⟩ = some (.bool a0_2) := (blk_cell BK101.out 2).trans rfl; have hfz15_0 := blk_frozen BK101.out 0; have hfz15_1 := blk_frozen BK101.out 1; have hfz15_2 := blk_frozen BK101.out 2))
    go_ret
    exact ⟨by first | rfl | (simp [errW_none, errW_some] <;> rfl) | (simp [*, errW_none, errW_some] <;> rfl), by repeat (first | (with_reducible first | exact HB.out | apply below_alloc | apply pw_below_drewN | apply below_drew1 | refine below_set ?_ GE101.out) | exact HB.out)⟩

/-! ### furlongref05_Do: function 24 -/
mutual
def furlongref05_Do.j1 : Nat → List (S47) → Int → ByteArray → ByteArray → Bool → Option ((List (S47)))
  | 0, _, _, _, _, _ => none
  | k + 1, x0, x5, x103000, x103001, x103002 => if 0 ≤ x5 then (if x5 ≤ (x0.length : Int) then ((some (x0.drop (x5 : Int).toNat : List (S47))).bind fun y104 => (if x5 < (x0.length : Int) then (furlongref05_Do.j2 k x0 x5 y104 (((rd_T47 x0 x5).f0).toList == x103000.toList) x103000 x103001 x103002) else (furlongref05_Do.j2 k x0 x5 y104 false x103000 x103001 x103002))) else (none)) else (none)
def furlongref05_Do.j2 : Nat → List (S47) → Int → List (S47) → Bool → ByteArray → ByteArray → Bool → Option ((List (S47)))
  | 0, _, _, _, _, _, _, _ => none
  | k + 1, x0, x5, x6, x40, x103000, x103001, x103002 => if x40 = true then (if 0 ≤ (wrap64 (x5 + 1)) then (if (wrap64 (x5 + 1)) ≤ (x0.length : Int) then ((some (x0.drop ((wrap64 (x5 + 1)) : Int).toNat : List (S47))).bind fun y109 => ((some (([] : List (S47)) : List (S47))).bind fun y113 => (if 0 ≤ x5 then (if x5 ≤ (x0.length : Int) then ((some (x0.take (x5 : Int).toNat : List (S47))).bind fun y116 => (if y113.length + y116.length < 4398046511104 then ((some (y113 ++ y116 : List (S47))).bind fun y120 => (if x103002 = true then (if y120.length + y109.length < 4398046511104 then (some (y120 ++ y109)) else (none)) else (if y120.length < 4398046511104 then ((some (y120 ++ [(⟨x103000, x103001⟩ : S47)] : List (S47))).bind fun y126 => (if y126.length + y109.length < 4398046511104 then (some (y126 ++ y109)) else (none))) else (none)))) else (none))) else (none)) else (none)))) else (none)) else (none)) else ((some (([] : List (S47)) : List (S47))).bind fun y132 => (if 0 ≤ x5 then (if x5 ≤ (x0.length : Int) then ((some (x0.take (x5 : Int).toNat : List (S47))).bind fun y135 => (if y132.length + y135.length < 4398046511104 then ((some (y132 ++ y135 : List (S47))).bind fun y139 => (if x103002 = true then (if y139.length + x6.length < 4398046511104 then (some (y139 ++ x6)) else (none)) else (if y139.length < 4398046511104 then ((some (y139 ++ [(⟨x103000, x103001⟩ : S47)] : List (S47))).bind fun y145 => (if y145.length + x6.length < 4398046511104 then (some (y145 ++ x6)) else (none))) else (none)))) else (none))) else (none)) else (none)))
def furlongref05_Do.l0 : Nat → List (S47) → Int → ByteArray → ByteArray → Bool → Option ((List (S47)))
  | 0, _, _, _, _, _ => none
  | k + 1, x0, x5, x103000, x103001, x103002 => if x5 < (x0.length : Int) then (if 0 ≤ x5 then (if (Op.bytesLess (((rd_T47 x0 x5).f0).toList) x103000.toList) = true then (furlongref05_Do.l0 k x0 (wrap64 (x5 + 1)) x103000 x103001 x103002) else (furlongref05_Do.j1 k x0 x5 x103000 x103001 x103002)) else (none)) else (furlongref05_Do.j1 k x0 x5 x103000 x103001 x103002)
end
def furlongref05_Do.f (k : Nat) (l0 : List (S47)) (a1_0 : ByteArray) (a1_1 : ByteArray) (a1_2 : Bool) : Option ((List (S47))) := furlongref05_Do.l0 k l0 0 a1_0 a1_1 a1_2
theorem furlongref05_Do.mono_l : ∀ k, (∀ y0 y1 y2 y3 y4, LeO (furlongref05_Do.j1 k y0 y1 y2 y3 y4) (furlongref05_Do.j1 (k + 1) y0 y1 y2 y3 y4)) ∧ (∀ y0 y1 y2 y3 y4 y5 y6, LeO (furlongref05_Do.j2 k y0 y1 y2 y3 y4 y5 y6) (furlongref05_Do.j2 (k + 1) y0 y1 y2 y3 y4 y5 y6)) ∧ (∀ y0 y1 y2 y3 y4, LeO (furlongref05_Do.l0 k y0 y1 y2 y3 y4) (furlongref05_Do.l0 (k + 1) y0 y1 y2 y3 y4))
  | 0 => ⟨fun _ _ _ _ _ r h => by simp [furlongref05_Do.j1] at h, fun _ _ _ _ _ _ _ r h => by simp [furlongref05_Do.j2] at h, fun _ _ _ _ _ r h => by simp [furlongref05_Do.l0] at h⟩
  | k + 1 => by
    obtain ⟨ih0, ih1, ih2⟩ := furlongref05_Do.mono_l k
    refine ⟨?_, ?_, ?_⟩
    · intro y0 y1 y2 y3 y4
      unfold furlongref05_Do.j1
      repeat' first
      | (with_reducible exact ih0 _ _ _ _ _)
      | (with_reducible exact ih1 _ _ _ _ _ _ _)
      | (with_reducible exact ih2 _ _ _ _ _)
      | (with_reducible exact LeO.refl _)
      | (with_reducible exact LeO.none _)
      | (with_reducible refine LeO.ite ?_ ?_)
      | (with_reducible refine LeO.bind ?_ (fun _ => ?_))
      | exact ih0 _ _ _ _ _
      | exact ih1 _ _ _ _ _ _ _
      | exact ih2 _ _ _ _ _
      | exact LeO.none _
      | refine LeO.ite ?_ ?_
      | refine LeO.bind ?_ (fun _ => ?_)
    · intro y0 y1 y2 y3 y4 y5 y6
      unfold furlongref05_Do.j2
      repeat' first
      | (with_reducible exact ih0 _ _ _ _ _)
      | (with_reducible exact ih1 _ _ _ _ _ _ _)
      | (with_reducible exact ih2 _ _ _ _ _)
      | (with_reducible exact LeO.refl _)
      | (with_reducible exact LeO.none _)
      | (with_reducible refine LeO.ite ?_ ?_)
      | (with_reducible refine LeO.bind ?_ (fun _ => ?_))
      | exact ih0 _ _ _ _ _
      | exact ih1 _ _ _ _ _ _ _
      | exact ih2 _ _ _ _ _
      | exact LeO.none _
      | refine LeO.ite ?_ ?_
      | refine LeO.bind ?_ (fun _ => ?_)
    · intro y0 y1 y2 y3 y4
      unfold furlongref05_Do.l0
      repeat' first
      | (with_reducible exact ih0 _ _ _ _ _)
      | (with_reducible exact ih1 _ _ _ _ _ _ _)
      | (with_reducible exact ih2 _ _ _ _ _)
      | (with_reducible exact LeO.refl _)
      | (with_reducible exact LeO.none _)
      | (with_reducible refine LeO.ite ?_ ?_)
      | (with_reducible refine LeO.bind ?_ (fun _ => ?_))
      | exact ih0 _ _ _ _ _
      | exact ih1 _ _ _ _ _ _ _
      | exact ih2 _ _ _ _ _
      | exact LeO.none _
      | refine LeO.ite ?_ ?_
      | refine LeO.bind ?_ (fun _ => ?_)
theorem furlongref05_Do.mono : ∀ a0 a1 a2 a3 k, LeO (furlongref05_Do.f k a0 a1 a2 a3) (furlongref05_Do.f (k + 1) a0 a1 a2 a3) := by
  intro a0 a1 a2 a3 k
  obtain ⟨ih0, ih1, ih2⟩ := furlongref05_Do.mono_l k
  unfold furlongref05_Do.f
  repeat' first
      | (with_reducible exact ih0 _ _ _ _ _)
      | (with_reducible exact ih1 _ _ _ _ _ _ _)
      | (with_reducible exact ih2 _ _ _ _ _)
      | (with_reducible exact LeO.refl _)
      | (with_reducible exact LeO.none _)
      | (with_reducible refine LeO.ite ?_ ?_)
      | (with_reducible refine LeO.bind ?_ (fun _ => ?_))
      | exact ih0 _ _ _ _ _
      | exact ih1 _ _ _ _ _ _ _
      | exact ih2 _ _ _ _ _
      | exact LeO.none _
      | refine LeO.ite ?_ ?_
      | refine LeO.bind ?_ (fun _ => ?_)
set_option maxHeartbeats 8000000 in
set_option maxRecDepth 100000 in
theorem furlongref05_Do.calls (k : Nat) (A0 : Option Addr) (c0 : Nat) (l0 : List (S47)) (a1_0 : ByteArray) (a1_1 : ByteArray) (a1_2 : Bool) (r : List (S47)) (w : World) (hr0 : Kd.C k47 w A0 l0.length l0) (hc0 : l0.length ≤ c0) (h : furlongref05_Do.f k l0 a1_0 a1_1 a1_2 = some r) :
    Calls Tryz.prog 24 #[.slice A0 l0.length c0, .agg #[.string a1_0, .string a1_1, .bool a1_2]] w fun e w' => ∃ v0_ : Value, e = .returned (v0_) ∧ Kd.R k47 47 w' w.heap.size (fun _ => True) v0_ r ∧ Below w.heap.size w w' := by
  have hu51 := Tryz.underlying51
  have hu47 := Tryz.underlying47
  have HR0 := Aside0.mk hr0
  have HC0 := Aside0.mk hc0
  clear hr0 hc0
  have HB := Aside0.mk (Below.refl w.heap.size w)
  have H : (furlongref05_Do.l0 k l0 0 a1_0 a1_1 a1_2) = some r := h
  clear h
  have HC3 := Aside0.mk H
  clear H
  go_enter Tryz.func24, Tryz.ntmps24
  go_upto_block 0 with (first | ((with_reducible refine gate_dst (N := 3) rfl ?_); refine box_event ?hg (N := 3) ?hd (cs := #[.string a1_0, .string a1_1, .bool a1_2]) (t := 51) ?hr ?_; (case hd => rfl); (case hg => rfl); (case hr => first | (go_simp; done) | (go_simp; rfl)); intro gb102 hg w4 hbox hb; have n0_ := Aside0.mk (below_step (by repeat (first | (with_reducible first | exact HB.out | apply below_alloc | apply pw_below_drewN | apply below_drew1) | exact HB.out)) hb); have n1_ := Aside0.mk (hbox); have n2_ := Aside0.mk ((by rw [hg]; exact (below_size (by repeat (first | (with_reducible first | exact HB.out | apply below_alloc | apply pw_below_drewN | apply below_drew1) | exact HB.out))) : w.heap.size ≤ gb102)); have n3_ := Aside0.mk ((by rw [hg]; exact (below_size (by repeat (first | (with_reducible first | exact HB.out | apply below_alloc | apply pw_below_drewN | apply below_drew1) | exact HB.out))) : w.heap.size ≤ gb102)); clear HB; have HB := n0_; have BK102 := n1_; have GW102 := n2_; have GE102 := n3_; clear n0_ n1_ n2_ n3_; clear hb hbox hg))
  repeat (go_quiet (first | ((with_reducible refine gate_dst (N := 3) rfl ?_); refine box_event ?hg (N := 3) ?hd (cs := #[.string a1_0, .string a1_1, .bool a1_2]) (t := 51) ?hr ?_; (case hd => rfl); (case hg => rfl); (case hr => first | (go_simp; done) | (go_simp; rfl)); intro gb102 hg w4 hbox hb; have n0_ := Aside0.mk (below_step (by repeat (first | (with_reducible first | exact HB.out | apply below_alloc | apply pw_below_drewN | apply below_drew1) | exact HB.out)) hb); have n1_ := Aside0.mk (hbox); have n2_ := Aside0.mk ((by rw [hg]; exact (below_size (by repeat (first | (with_reducible first | exact HB.out | apply below_alloc | apply pw_below_drewN | apply below_drew1) | exact HB.out))) : w.heap.size ≤ gb102)); have n3_ := Aside0.mk ((by rw [hg]; exact (below_size (by repeat (first | (with_reducible first | exact HB.out | apply below_alloc | apply pw_below_drewN | apply below_drew1) | exact HB.out))) : w.heap.size ≤ gb102)); clear HB; have HB := n0_; have BK102 := n1_; have GW102 := n2_; have GE102 := n3_; clear n0_ n1_ n2_ n3_; clear hb hbox hg)); go_upto_block 0 with (first | ((with_reducible refine gate_dst (N := 3) rfl ?_); refine box_event ?hg (N := 3) ?hd (cs := #[.string a1_0, .string a1_1, .bool a1_2]) (t := 51) ?hr ?_; (case hd => rfl); (case hg => rfl); (case hr => first | (go_simp; done) | (go_simp; rfl)); intro gb102 hg w4 hbox hb; have n0_ := Aside0.mk (below_step (by repeat (first | (with_reducible first | exact HB.out | apply below_alloc | apply pw_below_drewN | apply below_drew1) | exact HB.out)) hb); have n1_ := Aside0.mk (hbox); have n2_ := Aside0.mk ((by rw [hg]; exact (below_size (by repeat (first | (with_reducible first | exact HB.out | apply below_alloc | apply pw_below_drewN | apply below_drew1) | exact HB.out))) : w.heap.size ≤ gb102)); have n3_ := Aside0.mk ((by rw [hg]; exact (below_size (by repeat (first | (with_reducible first | exact HB.out | apply below_alloc | apply pw_below_drewN | apply below_drew1) | exact HB.out))) : w.heap.size ≤ gb102)); clear HB; have HB := n0_; have BK102 := n1_; have GW102 := n2_; have GE102 := n3_; clear n0_ n1_ n2_ n3_; clear hb hbox hg)))
  (try simp only [Act.put, List.setIfInBounds_toArray, List.set_cons_zero, List.set_cons_succ])
  go_cut [5] (fun v5 wc => ∃ (kq : Nat) (x5_2 : Int), v5 = .int .i64 x5_2 ∧ Aside0 (furlongref05_Do.j1 kq l0 x5_2 a1_0 a1_1 a1_2 = some r) ∧ Aside0 (kq ≤ k) ∧ Aside0 (wc.heap[gb102]? = some (.cells #[.string a1_0, .string a1_1, .bool a1_2] 51 (0, 0))) ∧ Aside0 (Below w.heap.size w wc))
  case first =>
    have H := HC3.out
    clear HC3
    have H' := Aside0.mk H
    clear H
    go_wp2
    repeat (go_quiet (fail); try go_wp2)
    go_loopg [5] k (fun kq v5 w' => ∃ (x5_1 : Int), v5 = .int .i64 x5_1 ∧ Aside0 (furlongref05_Do.l0 kq l0 x5_1 a1_0 a1_1 a1_2 = some r) ∧ Aside0 (kq ≤ k) ∧ Aside0 (w'.heap[gb102]? = some (.cells #[.string a1_0, .string a1_1, .bool a1_2] 51 (0, 0))) ∧ Aside0 (Below w.heap.size w w'))
    case atStart => exact ⟨(0), (by first | rfl | (simp; done) | (simp [*]; done)), H', ⟨Nat.le_refl _⟩, ⟨by (with_reducible repeat (first | refine blk_drewN ?_ _ | refine blk_drew ?_ | refine blk_alloc ?_ _)); exact BK102.out⟩, ⟨by repeat (first | (with_reducible first | exact HB.out | apply below_alloc | apply pw_below_drewN | apply below_drew1 | refine below_set ?_ GE102.out) | exact HB.out)⟩⟩
    case round =>
      clear H'
      try clear c2
      try clear p2
      obtain ⟨x5_1, rfl, HA, HK1, BK102, HB⟩ := hrel
      cases gk with
      | zero => exact absurd HA.out (by simp [furlongref05_Do.l0])
      | succ k1 =>
        have H := HA.out
        clear HA
        simp only [furlongref05_Do.l0] at H
        by_cases c5 : x5_1 < (l0.length : Int)
        · rw [if_pos c5] at H
          have c5b0 : decide (x5_1 < (l0.length : Int)) = true := decide_eq_true c5
          clear c5
          (first | rw [c5b0] | (simp only [i64_w, i32_w]; rw [c5b0]) | skip)
          by_cases c6 : 0 ≤ x5_1
          · rw [if_pos c6] at H
            have c6b0 : decide (0 ≤ x5_1) = true := decide_eq_true c6
            clear c6
            by_cases c7 : (Op.bytesLess (((rd_T47 l0 x5_1).f0).toList) a1_0.toList) = true
            · rw [if_pos c7] at H
              have c7b0 : (Op.bytesLess (((rd_T47 l0 x5_1).f0).toList) a1_0.toList) = true := c7
              clear c7
              have H' := Aside0.mk H
              clear H
              have p103 : 0 ≤ (x5_1 : Int) := of_decide_eq_true (by first | (with_reducible assumption) | assumption)
              have q103 : x5_1 < (l0.length : Int) := of_decide_eq_true (by first | (with_reducible assumption) | assumption)
              obtain ⟨ad103, e103, hx103_0, hx103_1⟩ := at_T47 HR0.out x5_1 p103 q103
              cases e103
              replace hx103_0 := (HB.out.cell (World.block_lt_of_cell? w _ hx103_0)).trans hx103_0
              replace hx103_1 := (HB.out.cell (World.block_lt_of_cell? w _ hx103_1)).trans hx103_1
              replace p103 := eq_true p103
              replace q103 := eq_true q103
              have hcz8_0 : wr.cell? ⟨gb102, 0, none⟩ = some (.string a1_0) := (blk_cell BK102.out 0).trans rfl
              have hcz8_1 : wr.cell? ⟨gb102, 1, none⟩ = some (.string a1_1) := (blk_cell BK102.out 1).trans rfl
              have hcz8_2 : wr.cell? ⟨gb102, 2, none⟩ = some (.bool a1_2) := (blk_cell BK102.out 2).trans rfl
              have hfz8_0 := blk_frozen BK102.out 0
              have hfz8_1 := blk_frozen BK102.out 1
              have hfz8_2 := blk_frozen BK102.out 2
              go_wp2
              repeat (go_quiet (fail); try go_wp2)
              go_roundg k1
              case measure => have := HK1.out; omega
              case rel => exact ⟨(wrap64 (x5_1 + 1)), (by first | rfl | (simp; done) | (simp [*]; done)), H', ⟨by have := HK1.out; omega⟩, ⟨by (with_reducible repeat (first | refine blk_drewN ?_ _ | refine blk_drew ?_ | refine blk_alloc ?_ _)); exact BK102.out⟩, ⟨by repeat (first | (with_reducible first | exact HB.out | apply below_alloc | apply pw_below_drewN | apply below_drew1 | refine below_set ?_ GE102.out) | exact HB.out)⟩⟩
            · rw [if_neg c7] at H
              have c7b0 : (Op.bytesLess (((rd_T47 l0 x5_1).f0).toList) a1_0.toList) = false := by simpa using c7
              clear c7
              have H' := Aside0.mk H
              clear H
              have p103 : 0 ≤ (x5_1 : Int) := of_decide_eq_true (by first | (with_reducible assumption) | assumption)
              have q103 : x5_1 < (l0.length : Int) := of_decide_eq_true (by first | (with_reducible assumption) | assumption)
              obtain ⟨ad103, e103, hx103_0, hx103_1⟩ := at_T47 HR0.out x5_1 p103 q103
              cases e103
              replace hx103_0 := (HB.out.cell (World.block_lt_of_cell? w _ hx103_0)).trans hx103_0
              replace hx103_1 := (HB.out.cell (World.block_lt_of_cell? w _ hx103_1)).trans hx103_1
              replace p103 := eq_true p103
              replace q103 := eq_true q103
              have hcz9_0 : wr.cell? ⟨gb102, 0, none⟩ = some (.string a1_0) := (blk_cell BK102.out 0).trans rfl
              have hcz9_1 : wr.cell? ⟨gb102, 1, none⟩ = some (.string a1_1) := (blk_cell BK102.out 1).trans rfl
              have hcz9_2 : wr.cell? ⟨gb102, 2, none⟩ = some (.bool a1_2) := (blk_cell BK102.out 2).trans rfl
              have hfz9_0 := blk_frozen BK102.out 0
              have hfz9_1 := blk_frozen BK102.out 1
              have hfz9_2 := blk_frozen BK102.out 2
              go_wp2
              repeat (go_quiet (fail); try go_wp2)
              go_meet
              case rel => exact ⟨_, (x5_1), (by first | rfl | (simp; done) | (simp [*]; done)), H', ⟨by have := HK1.out; first | omega | exact Nat.le_refl _⟩, ⟨by (with_reducible repeat (first | refine blk_drewN ?_ _ | refine blk_drew ?_ | refine blk_alloc ?_ _)); exact BK102.out⟩, ⟨by repeat (first | (with_reducible first | exact HB.out | apply below_alloc | apply pw_below_drewN | apply below_drew1 | refine below_set ?_ GE102.out) | exact HB.out)⟩⟩
          · rw [if_neg c6] at H
            exact absurd H (by simp)
        · rw [if_neg c5] at H
          have c5b0 : decide (x5_1 < (l0.length : Int)) = false := decide_eq_false c5
          clear c5
          (first | rw [c5b0] | (simp only [i64_w, i32_w]; rw [c5b0]) | skip)
          have H' := Aside0.mk H
          clear H
          go_wp2
          repeat (go_quiet (fail); try go_wp2)
          go_meet
          case rel => exact ⟨_, (x5_1), (by first | rfl | (simp; done) | (simp [*]; done)), H', ⟨by have := HK1.out; first | omega | exact Nat.le_refl _⟩, ⟨by (with_reducible repeat (first | refine blk_drewN ?_ _ | refine blk_drew ?_ | refine blk_alloc ?_ _)); exact BK102.out⟩, ⟨by repeat (first | (with_reducible first | exact HB.out | apply below_alloc | apply pw_below_drewN | apply below_drew1 | refine below_set ?_ GE102.out) | exact HB.out)⟩⟩
  case rest =>
    clear HC3
    try clear p1
    try clear q1
    try clear hx1
    try clear c2
    try clear p2
    try clear c5
    try clear c5b0
    try clear c6
    try clear c6b0
    try clear p6
    try clear c7
    try clear c7b0
    try clear hcz8_0
    try clear hcz8_1
    try clear hcz8_2
    try clear hcz9_0
    try clear hcz9_1
    try clear hcz9_2
    try clear hfz8_0
    try clear hfz8_1
    try clear hfz8_2
    try clear hfz9_0
    try clear hfz9_1
    try clear hfz9_2
    try clear hx103_0
    try clear hx103_1
    try clear p103
    try clear p2
    try clear q103
    obtain ⟨kq, x5_2, rfl, HA, HJ2, BK102, HB⟩ := hcut
    cases kq with
    | zero => exact absurd HA.out (by simp [furlongref05_Do.j1])
    | succ kj2 =>
      have H := HA.out
      clear HA
      simp only [furlongref05_Do.j1] at H
      by_cases c10 : 0 ≤ x5_2
      · rw [if_pos c10] at H
        have c10b0 := eq_true c10
        have c10b1 : decide (0 ≤ x5_2) = true := decide_eq_true c10
        clear c10
        by_cases c11 : x5_2 ≤ (l0.length : Int)
        · rw [if_pos c11] at H
          have c11b0 := eq_true c11
          have c11b1 : decide (x5_2 ≤ (l0.length : Int)) = true := decide_eq_true c11
          clear c11
          obtain ⟨y104, hy104⟩ : ∃ y_ : List (S47), y_ = (l0.drop (x5_2 : Int).toNat) := ⟨_, rfl⟩
          replace H : (if x5_2 < (l0.length : Int) then (furlongref05_Do.j2 kj2 l0 x5_2 y104 (((rd_T47 l0 x5_2).f0).toList == a1_0.toList) a1_0 a1_1 a1_2) else (furlongref05_Do.j2 kj2 l0 x5_2 y104 false a1_0 a1_1 a1_2)) = some r := by first | (rw [hy104]; with_reducible exact H) | (have H2_ := (Option.bind_some _ _).symm.trans H; rw [hy104]; with_reducible exact H2_) | (have H2_ := (Option.bind_some _ _).symm.trans H; with_reducible exact H2_) | with_reducible exact H | (rw [hy104]; exact H) | exact H
          have Ny104 := Aside0.mk hy104
          clear hy104
          have HC12 := Aside0.mk H
          clear H
          have q13 : (x5_2 : Int) ≤ ((l0.length : Int) : Int) := of_decide_eq_true (by first | (with_reducible assumption) | assumption)
          obtain ⟨i013, hi013, _, hsz13, _⟩ := info_parts info47
          have hroom13 : l0.length ≤ c0 := HC0.out
          have hC13 : Kd.C k47 _ A0 l0.length l0 := HR0.out
          have q013 : (0 : Int) ≤ (x5_2 : Int) := of_decide_eq_true (by first | (with_reducible assumption) | assumption)
          have hcut13 := cut_from (P := Tryz.prog) 40 47 .i64 Tryz.underlying40 hi013 2 hsz13 A0 l0.length c0 x5_2 q013 q13
          have hr13 := Kd.C_drop (m := (x5_2 : Int).toNat) (c := c0) hC13 (by omega) hroom13
          obtain ⟨A13, hA13⟩ : ∃ A1, A1 = (if c0 = (x5_2 : Int).toNat then A0 else (A0 : Option Addr).map (·.add ((x5_2 : Int).toNat * 2))) := ⟨_, rfl⟩
          obtain ⟨c13, hc13⟩ : ∃ c1, c1 = c0 - (x5_2 : Int).toNat := ⟨_, rfl⟩
          have hy13 : y104.length = l0.length - (x5_2 : Int).toNat := (by rw [Ny104.out, List.length_drop] <;> omega)
          rw [show (l0).drop (x5_2 : Int).toNat = y104 from Ny104.out.symm] at hr13
          replace hr13 : Kd.C k47 _ A13 y104.length y104 := (by rw [hA13]; exact hr13)
          rw [← hy13, ← hA13, ← hc13] at hcut13
          have HR107 := Aside0.mk hr13
          have HC107 := Aside0.mk (show y104.length ≤ c13 from by rw [hy13, hc13]; exact Nat.sub_le_sub_right hroom13 _)
          clear hr13 hC13 hroom13 hi013 hsz13 hc13
          have KY13 := Aside0.mk hy13
          have KA13 := Aside0.mk hA13
          clear hy13 hA13
          replace q13 := eq_true q13
          go_upto_region 5 with (fail)
          repeat (go_quiet (fail); go_upto_region 5 with (fail))
          go_cut [40] (fun v40 wc => ∃ (kq : Nat) (x40_11 : Bool), v40 = .bool x40_11 ∧ Aside0 (furlongref05_Do.j2 kq l0 x5_2 y104 x40_11 a1_0 a1_1 a1_2 = some r) ∧ Aside0 (kq ≤ kj2) ∧ Aside0 (wc.heap[gb102]? = some (.cells #[.string a1_0, .string a1_1, .bool a1_2] 51 (0, 0))) ∧ Aside0 (Below w.heap.size w wc))
          case first =>
            have H := HC12.out
            clear HC12
            by_cases c14 : x5_2 < (l0.length : Int)
            · rw [if_pos c14] at H
              have c14b0 : decide (x5_2 < (l0.length : Int)) = true := decide_eq_true c14
              clear c14
              (first | rw [c14b0] | (simp only [i64_w, i32_w]; rw [c14b0]) | skip)
              have H' := Aside0.mk H
              clear H
              have p108 : 0 ≤ (x5_2 : Int) := of_decide_eq_true (by first | (with_reducible assumption) | assumption)
              have q108 : x5_2 < (l0.length : Int) := of_decide_eq_true (by first | (with_reducible assumption) | assumption)
              obtain ⟨ad108, e108, hx108_0, hx108_1⟩ := at_T47 HR0.out x5_2 p108 q108
              cases e108
              replace hx108_0 := (HB.out.cell (World.block_lt_of_cell? w _ hx108_0)).trans hx108_0
              replace hx108_1 := (HB.out.cell (World.block_lt_of_cell? w _ hx108_1)).trans hx108_1
              replace p108 := eq_true p108
              replace q108 := eq_true q108
              have hcz15_0 : wc.cell? ⟨gb102, 0, none⟩ = some (.string a1_0) := (blk_cell BK102.out 0).trans rfl
              have hcz15_1 : wc.cell? ⟨gb102, 1, none⟩ = some (.string a1_1) := (blk_cell BK102.out 1).trans rfl
              have hcz15_2 : wc.cell? ⟨gb102, 2, none⟩ = some (.bool a1_2) := (blk_cell BK102.out 2).trans rfl
              have hfz15_0 := blk_frozen BK102.out 0
              have hfz15_1 := blk_frozen BK102.out 1
              have hfz15_2 := blk_frozen BK102.out 2
              go_wp2
              repeat (go_quiet (fail); try go_wp2)
              go_meet
              case rel => exact ⟨_, ((((rd_T47 l0 x5_2).f0).toList == a1_0.toList)), (by first | rfl | (simp; done) | (simp [*]; done)), H', ⟨by have := HJ2.out; first | omega | exact Nat.le_refl _⟩, ⟨by (with_reducible repeat (first | refine blk_drewN ?_ _ | refine blk_drew ?_ | refine blk_alloc ?_ _)); exact BK102.out⟩, ⟨by repeat (first | (with_reducible first | exact HB.out | apply below_alloc | apply pw_below_drewN | apply below_drew1 | refine below_set ?_ GE102.out) | exact HB.out)⟩⟩
            · rw [if_neg c14] at H
              have c14b0 : decide (x5_2 < (l0.length : Int)) = false := decide_eq_false c14
              clear c14
              (first | rw [c14b0] | (simp only [i64_w, i32_w]; rw [c14b0]) | skip)
              have H' := Aside0.mk H
              clear H
              go_wp2
              repeat (go_quiet (fail); try go_wp2)
              go_meet
              case rel => exact ⟨_, (false), (by first | rfl | (simp; done) | (simp [*]; done)), H', ⟨by have := HJ2.out; first | omega | exact Nat.le_refl _⟩, ⟨by (with_reducible repeat (first | refine blk_drewN ?_ _ | refine blk_drew ?_ | refine blk_alloc ?_ _)); exact BK102.out⟩, ⟨by repeat (first | (with_reducible first | exact HB.out | apply below_alloc | apply pw_below_drewN | apply below_drew1 | refine below_set ?_ GE102.out) | exact HB.out)⟩⟩
          case rest =>
            clear HC12
            try clear c1
            try clear p1
            try clear q1
            try clear hx1
            try clear c2
            try clear p2
            try clear c5
            try clear c5b0
            try clear c6
            try clear c6b0
            try clear p6
            try clear c7
            try clear c7b0
            try clear c10
            try clear c10b0
            try clear c10b1
            try clear p10
            try clear q10
            try clear hx10
            try clear c11
            try clear c11b0
            try clear c11b1
            try clear c13
            try clear q13
            try clear c14
            try clear c14b0
            try clear hcz15_0
            try clear hcz15_1
            try clear hcz15_2
            try clear hcz8_0
            try clear hcz8_1
            try clear hcz8_2
            try clear hcz9_0
            try clear hcz9_1
            try clear hcz9_2
            try clear hfz15_0
            try clear hfz15_1
            try clear hfz15_2
            try clear hfz8_0
            try clear hfz8_1
            try clear hfz8_2
            try clear hfz9_0
            try clear hfz9_1
            try clear hfz9_2
            try clear hx103_0
            try clear hx103_1
            try clear hx108_0
            try clear hx108_1
            try clear p1
            try clear p103
            try clear p108
            try clear p2
            try clear p6
            try clear q013
            try clear q1
            try clear q103
            try clear q108
            try clear q13
            obtain ⟨kq, x40_11, rfl, HA, HJ11, BK102, HB⟩ := hcut
            cases kq with
            | zero => exact absurd HA.out (by simp [furlongref05_Do.j2])
            | succ kj11 =>
              have H := HA.out
              clear HA
              simp only [furlongref05_Do.j2] at H
              by_cases c16 : x40_11 = true
              · subst c16
                have H1 : (if 0 ≤ (wrap64 (x5_2 + 1)) then (if (wrap64 (x5_2 + 1)) ≤ (l0.length : Int) then ((some (l0.drop ((wrap64 (x5_2 + 1)) : Int).toNat : List (S47))).bind fun y109 => ((some (([] : List (S47)) : List (S47))).bind fun y113 => (if 0 ≤ x5_2 then (if x5_2 ≤ (l0.length : Int) then ((some (l0.take (x5_2 : Int).toNat : List (S47))).bind fun y116 => (if y113.length + y116.length < 4398046511104 then ((some (y113 ++ y116 : List (S47))).bind fun y120 => (if a1_2 = true then (if y120.length + y109.length < 4398046511104 then (some (y120 ++ y109)) else (none)) else (if y120.length < 4398046511104 then ((some (y120 ++ [(⟨a1_0, a1_1⟩ : S47)] : List (S47))).bind fun y126 => (if y126.length + y109.length < 4398046511104 then (some (y126 ++ y109)) else (none))) else (none)))) else (none))) else (none)) else (none)))) else (none)) else (none)) = some r := by rw [if_pos rfl] at H; exact H
                clear H
                have H := H1
                clear H1
                obtain ⟨ji17, hji17⟩ : ∃ j_ : Int, (wrap64 (x5_2 + 1)) = j_ := ⟨_, rfl⟩
                replace H : (if 0 ≤ (ji17) then (if (ji17) ≤ (l0.length : Int) then ((some (l0.drop ((ji17) : Int).toNat : List (S47))).bind fun y109 => ((some (([] : List (S47)) : List (S47))).bind fun y113 => (if 0 ≤ x5_2 then (if x5_2 ≤ (l0.length : Int) then ((some (l0.take (x5_2 : Int).toNat : List (S47))).bind fun y116 => (if y113.length + y116.length < 4398046511104 then ((some (y113 ++ y116 : List (S47))).bind fun y120 => (if a1_2 = true then (if y120.length + y109.length < 4398046511104 then (some (y120 ++ y109)) else (none)) else (if y120.length < 4398046511104 then ((some (y120 ++ [(⟨a1_0, a1_1⟩ : S47)] : List (S47))).bind fun y126 => (if y126.length + y109.length < 4398046511104 then (some (y126 ++ y109)) else (none))) else (none)))) else (none))) else (none)) else (none)))) else (none)) else (none)) = some r := by first | (rw [hji17] at H; exact H) | (simp only [hji17] at H ⊢; exact H)
                have hji17w : (IntKind.i64.wrap (x5_2 + 1)) = ji17 := (i64_w _).trans hji17
                by_cases c18 : 0 ≤ (ji17)
                · rw [if_pos c18] at H
                  have c18b0 := eq_true c18
                  have c18b1 : decide (0 ≤ (ji17)) = true := decide_eq_true c18
                  clear c18
                  by_cases c19 : (ji17) ≤ (l0.length : Int)
                  · rw [if_pos c19] at H
                    have c19b0 := eq_true c19
                    have c19b1 : decide ((ji17) ≤ (l0.length : Int)) = true := decide_eq_true c19
                    clear c19
                    obtain ⟨y109, hy109⟩ : ∃ y_ : List (S47), y_ = (l0.drop ((ji17) : Int).toNat) := ⟨_, rfl⟩
                    replace H : ((some (([] : List (S47)) : List (S47))).bind fun y113 => (if 0 ≤ x5_2 then (if x5_2 ≤ (l0.length : Int) then ((some (l0.take (x5_2 : Int).toNat : List (S47))).bind fun y116 => (if y113.length + y116.length < 4398046511104 then ((some (y113 ++ y116 : List (S47))).bind fun y120 => (if a1_2 = true then (if y120.length + y109.length < 4398046511104 then (some (y120 ++ y109)) else (none)) else (if y120.length < 4398046511104 then ((some (y120 ++ [(⟨a1_0, a1_1⟩ : S47)] : List (S47))).bind fun y126 => (if y126.length + y109.length < 4398046511104 then (some (y126 ++ y109)) else (none))) else (none)))) else (none))) else (none)) else (none))) = some r := by first | (rw [hy109]; with_reducible exact H) | (have H2_ := (Option.bind_some _ _).symm.trans H; rw [hy109]; with_reducible exact H2_) | (have H2_ := (Option.bind_some _ _).symm.trans H; with_reducible exact H2_) | with_reducible exact H | (rw [hy109]; exact H) | exact H
                    have Ny109 := Aside0.mk hy109
                    clear hy109
                    obtain ⟨y113, hy113⟩ : ∃ y_ : List (S47), y_ = (([] : List (S47))) := ⟨_, rfl⟩
                    replace H : (if 0 ≤ x5_2 then (if x5_2 ≤ (l0.length : Int) then ((some (l0.take (x5_2 : Int).toNat : List (S47))).bind fun y116 => (if y113.length + y116.length < 4398046511104 then ((some (y113 ++ y116 : List (S47))).bind fun y120 => (if a1_2 = true then (if y120.length + y109.length < 4398046511104 then (some (y120 ++ y109)) else (none)) else (if y120.length < 4398046511104 then ((some (y120 ++ [(⟨a1_0, a1_1⟩ : S47)] : List (S47))).bind fun y126 => (if y126.length + y109.length < 4398046511104 then (some (y126 ++ y109)) else (none))) else (none)))) else (none))) else (none)) else (none)) = some r := by first | (rw [hy113]; with_reducible exact H) | (have H2_ := (Option.bind_some _ _).symm.trans H; rw [hy113]; with_reducible exact H2_) | (have H2_ := (Option.bind_some _ _).symm.trans H; with_reducible exact H2_) | with_reducible exact H | (rw [hy113]; exact H) | exact H
                    have Ny113 := Aside0.mk hy113
                    clear hy113
                    by_cases c20 : 0 ≤ x5_2
                    · rw [if_pos c20] at H
                      have c20b0 := eq_true c20
                      have c20b1 : decide (0 ≤ x5_2) = true := decide_eq_true c20
                      clear c20
                      by_cases c21 : x5_2 ≤ (l0.length : Int)
                      · rw [if_pos c21] at H
                        have c21b0 := eq_true c21
                        have c21b1 : decide (x5_2 ≤ (l0.length : Int)) = true := decide_eq_true c21
                        clear c21
                        obtain ⟨y116, hy116⟩ : ∃ y_ : List (S47), y_ = (l0.take (x5_2 : Int).toNat) := ⟨_, rfl⟩
                        replace H : (if y113.length + y116.length < 4398046511104 then ((some (y113 ++ y116 : List (S47))).bind fun y120 => (if a1_2 = true then (if y120.length + y109.length < 4398046511104 then (some (y120 ++ y109)) else (none)) else (if y120.length < 4398046511104 then ((some (y120 ++ [(⟨a1_0, a1_1⟩ : S47)] : List (S47))).bind fun y126 => (if y126.length + y109.length < 4398046511104 then (some (y126 ++ y109)) else (none))) else (none)))) else (none)) = some r := by first | (rw [hy116]; with_reducible exact H) | (have H2_ := (Option.bind_some _ _).symm.trans H; rw [hy116]; with_reducible exact H2_) | (have H2_ := (Option.bind_some _ _).symm.trans H; with_reducible exact H2_) | with_reducible exact H | (rw [hy116]; exact H) | exact H
                        have Ny116 := Aside0.mk hy116
                        clear hy116
                        by_cases c22 : y113.length + y116.length < 4398046511104
                        · rw [if_pos c22] at H
                          have LMc22 := Aside0.mk c22
                          clear c22
                          obtain ⟨y120, hy120⟩ : ∃ y_ : List (S47), y_ = (y113 ++ y116) := ⟨_, rfl⟩
                          replace H : (if a1_2 = true then (if y120.length + y109.length < 4398046511104 then (some (y120 ++ y109)) else (none)) else (if y120.length < 4398046511104 then ((some (y120 ++ [(⟨a1_0, a1_1⟩ : S47)] : List (S47))).bind fun y126 => (if y126.length + y109.length < 4398046511104 then (some (y126 ++ y109)) else (none))) else (none))) = some r := by first | (rw [hy120]; with_reducible exact H) | (have H2_ := (Option.bind_some _ _).symm.trans H; rw [hy120]; with_reducible exact H2_) | (have H2_ := (Option.bind_some _ _).symm.trans H; with_reducible exact H2_) | with_reducible exact H | (rw [hy120]; exact H) | exact H
                          have Ny120 := Aside0.mk hy120
                          clear hy120
                          by_cases c23 : a1_2 = true
                          · subst c23
                            have H1 : (if y120.length + y109.length < 4398046511104 then (some (y120 ++ y109)) else (none)) = some r := by rw [if_pos rfl] at H; exact H
                            clear H
                            have H := H1
                            clear H1
                            by_cases c24 : y120.length + y109.length < 4398046511104
                            · rw [if_pos c24] at H
                              have LMc24 := Aside0.mk c24
                              clear c24
                              obtain ⟨y123, hy123⟩ : ∃ y_ : List (S47), y_ = (y120 ++ y109) := ⟨_, rfl⟩
                              replace H : (some y123) = some r := by first | (rw [hy123]; with_reducible exact H) | (have H2_ := (Option.bind_some _ _).symm.trans H; rw [hy123]; with_reducible exact H2_) | (have H2_ := (Option.bind_some _ _).symm.trans H; with_reducible exact H2_) | with_reducible exact H | (rw [hy123]; exact H) | exact H
                              have Ny123 := Aside0.mk hy123
                              clear hy123
                              obtain rfl := Option.some.inj H
                              have q25 : ((ji17) : Int) ≤ ((l0.length : Int) : Int) := of_decide_eq_true (by first | (with_reducible assumption) | assumption)
                              obtain ⟨i025, hi025, _, hsz25, _⟩ := info_parts info47
                              have hroom25 : l0.length ≤ c0 := HC0.out
                              have hC25 : Kd.C k47 _ A0 l0.length l0 := HR0.out
                              have q025 : (0 : Int) ≤ ((ji17) : Int) := of_decide_eq_true (by first | (with_reducible assumption) | assumption)
                              have hcut25 := cut_from (P := Tryz.prog) 40 47 .i64 Tryz.underlying40 hi025 2 hsz25 A0 l0.length c0 (ji17) q025 q25
                              have hr25 := Kd.C_drop (m := ((ji17) : Int).toNat) (c := c0) hC25 (by omega) hroom25
                              obtain ⟨A25, hA25⟩ : ∃ A1, A1 = (if c0 = ((ji17) : Int).toNat then A0 else (A0 : Option Addr).map (·.add (((ji17) : Int).toNat * 2))) := ⟨_, rfl⟩
                              obtain ⟨c25, hc25⟩ : ∃ c1, c1 = c0 - ((ji17) : Int).toNat := ⟨_, rfl⟩
                              have hy25 : y109.length = l0.length - ((ji17) : Int).toNat := (by rw [Ny109.out, List.length_drop] <;> omega)
                              rw [show (l0).drop ((ji17) : Int).toNat = y109 from Ny109.out.symm] at hr25
                              replace hr25 : Kd.C k47 _ A25 y109.length y109 := (by rw [hA25]; exact hr25)
                              rw [← hy25, ← hA25, ← hc25] at hcut25
                              have HR112 := Aside0.mk hr25
                              have HC112 := Aside0.mk (show y109.length ≤ c25 from by rw [hy25, hc25]; exact Nat.sub_le_sub_right hroom25 _)
                              clear hr25 hC25 hroom25 hi025 hsz25 hc25
                              have KY25 := Aside0.mk hy25
                              have KA25 := Aside0.mk hA25
                              clear hy25 hA25
                              replace q25 := eq_true q25
                              go_wp2_with (first | ((with_reducible refine gate_dst (N := 45) rfl ?_); refine Kd.R_lit k47 _ 47 ?hg (N := 45) ?hd (xs := ([] : List (S47))) (inner := []) (ok := fun _ => True) (okp := fun _ => True) ?hr ?hp (fun _ hk => hk) trivial (Below.refl _ _) (Nat.le_refl _) (by simp) ?_; (case hd => rfl); (case hg => rfl); (case hr => first | (go_simp; done) | (go_simp; rfl)); (case hp => exact (Reps.none _ _)); intro v114 w26 ho27 hb hg_ hnew_; clear hg_ hnew_; (first | rw [← Ny113.out] at ho27 | (simp only [Int.reduceToNat] at ho27; rw [← Ny113.out] at ho27)); have n0_ := Aside0.mk (Kd.R_lower ho27 (below_size (by repeat (first | (with_reducible first | exact HB.out | apply below_alloc | apply pw_below_drewN | apply below_drew1 | refine below_set ?_ GE102.out) | exact HB.out)))); have n1_ := Aside0.mk (blk_below (g := gb102) (o := .cells #[.string a1_0, .string a1_1, .bool true] 51 (0, 0)) (by (with_reducible repeat (first | refine blk_drewN ?_ _ | refine blk_drew ?_ | refine blk_alloc ?_ _)); exact BK102.out) hb); have n2_ := Aside0.mk (below_step (by repeat (first | (with_reducible first | exact HB.out | apply below_alloc | apply pw_below_drewN | apply below_drew1 | refine below_set ?_ GE102.out) | exact HB.out)) hb); clear BK102; clear HB; have HO115 := n0_; have BK102 := n1_; have HB := n2_; clear n0_ n1_ n2_; clear hb ho27; have q28 : (x5_2 : Int) ≤ ((l0.length : Int) : Int) := of_decide_eq_true (by first | (with_reducible assumption) | assumption); obtain ⟨i028, hi028, _, hsz28, _⟩ := info_parts info47; have hroom28 : l0.length ≤ c0 := HC0.out; have hC28 : Kd.C k47 _ A0 l0.length l0 := HR0.out; have hcut28 := cut_to (P := Tryz.prog) 40 47 .i64 Tryz.underlying40 hi028 A0 l0.length c0 x5_2 (of_decide_eq_true (by first | (with_reducible assumption) | assumption)) q28 hroom28; have hr28 := Kd.C_take (m := (x5_2 : Int).toNat) hC28 (by omega); have hy28 : y116.length = (x5_2 : Int).toNat := (by rw [Ny116.out, List.length_take]; omega); rw [← Ny116.out] at hr28; rw [← hy28] at hcut28; have HR119 := Aside0.mk hr28; have HC119 := Aside0.mk (show y116.length ≤ c0 from by omega); clear hr28 hC28 hroom28 hi028 hsz28; have KY28 := Aside0.mk hy28; clear hy28; replace q28 := eq_true q28) | ((with_reducible refine gate_builtin (b := .append) (xs := #[.tmp 45, .tmp 48]) rfl ?_); at_builtin; refine Kd.R_append_rows k47 (w0 := w) w.heap.size rfl (.tmp 45) (.tmp 48) 40 47 (.agg #[(.string ⟨#[]⟩), (.string ⟨#[]⟩)]) 32 rfl Tryz.underlying40 info47 rfl (by decide) (by omega) v114 y113 y116 _ _ _ (fun _ => True) (fun _ => False) rfl rfl ?aO ?aR (fun _ _ h => h) (fun _ h => h.elim) ?aF ?aB ?aS ?aL ?_; (case aR => repeat (first | exact (Kd.C_below HR119.out HB.out) | (with_reducible refine Kd.C_alloc ?_ _) | (with_reducible refine Kd.C_drewN ?_ _) | (with_reducible refine Kd.C_drew ?_))); (case aB => exact (by repeat (first | (with_reducible first | exact HB.out | apply below_alloc | apply pw_below_drewN | apply below_drew1 | refine below_set ?_ GE102.out) | exact HB.out))); (case aF => exact (fun _ _ => trivial)); (case aO => exact (by (with_reducible repeat (first | apply Kd.R_alloc | apply Kd.R_drewN | apply Kd.R_drew)); exact HO115.out)); (case aS => exact (below_size (by repeat (first | (with_reducible first | exact HB.out | apply below_alloc | apply pw_below_drewN | apply below_drew1 | refine below_set ?_ GE102.out) | exact HB.out)))); (case aL => have := LMc22.out; omega); intro v121 w29 ho hb hg hat; rw [← Ny120.out] at ho; have n0_ := Aside0.mk (blk_grown (g := gb102) (o := .cells #[.string a1_0, .string a1_1, .bool true] 51 (0, 0)) (by (with_reducible repeat (first | refine blk_drewN ?_ _ | refine blk_drew ?_ | refine blk_alloc ?_ _)); exact BK102.out) hg (Kd.R_ne HO115.out BK102.out (by decide))); have n1_ := Aside0.mk (hb); have n2_ := Aside0.mk (ho); clear BK102; clear HB; clear HO115; have BK102 := n0_; have HB := n1_; have HO122 := n2_; clear n0_ n1_ n2_; clear ho hb hg hat; have hcz30_0 : w29.cell? ⟨gb102, 0, none⟩ = some (.string a1_0) := (blk_cell BK102.out 0).trans rfl; have hcz30_1 : w29.cell? ⟨gb102, 1, none⟩ = some (.string a1_1) := (blk_cell BK102.out 1).trans rfl; have hcz30_2 : w29.cell? ⟨gb102, 2, none⟩ = some (.bool true) := (blk_cell BK102.out 2).trans rfl; have hfz30_0 := blk_frozen BK102.out 0; have hfz30_1 := blk_frozen BK102.out 1; have hfz30_2 := blk_frozen BK102.out 2) | ((with_reducible refine gate_builtin (b := .append) (xs := #[.tmp 61, .tmp 62]) rfl ?_); at_builtin; refine Kd.R_append_rows k47 (w0 := w) w.heap.size rfl (.tmp 61) (.tmp 62) 40 47 (.agg #[(.string ⟨#[]⟩), (.string ⟨#[]⟩)]) 32 rfl Tryz.underlying40 info47 rfl (by decide) (by omega) v121 y120 y109 _ _ _ (fun _ => True) (fun _ => False) rfl rfl ?aO ?aR (fun _ _ h => h) (fun _ h => h.elim) ?aF ?aB ?aS ?aL ?_; (case aR => repeat (first | exact (Kd.C_below HR112.out HB.out) | (with_reducible refine Kd.C_alloc ?_ _) | (with_reducible refine Kd.C_drewN ?_ _) | (with_reducible refine Kd.C_drew ?_))); (case aB => exact (by repeat (first | (with_reducible first | exact HB.out | apply below_alloc | apply pw_below_drewN | apply below_drew1 | refine below_set ?_ GE102.out) | exact HB.out))); (case aF => exact (fun _ _ => trivial)); (case aO => exact (by (with_reducible repeat (first | apply Kd.R_alloc | apply Kd.R_drewN | apply Kd.R_drew)); exact HO122.out)); (case aS => exact (below_size (by repeat (first | (with_reducible first | exact HB.out | apply below_alloc | apply pw_below_drewN | apply below_drew1 | refine below_set ?_ GE102.out) | exact HB.out)))); (case aL => have := LMc24.out; omega); intro v124 w31 ho hb hg hat; rw [← Ny123.out] at ho; have n0_ := Aside0.mk (blk_grown (g := gb102) (o := .cells #[.string a1_0, .string a1_1, .bool true] 51 (0, 0)) (by (with_reducible repeat (first | refine blk_drewN ?_ _ | refine blk_drew ?_ | refine blk_alloc ?_ _)); exact BK102.out) hg (Kd.R_ne HO122.out BK102.out (by decide))); have n1_ := Aside0.mk (hb); have n2_ := Aside0.mk (ho); clear BK102; clear HB; clear HO122; have BK102 := n0_; have HB := n1_; have HO125 := n2_; clear n0_ n1_ n2_; clear ho hb hg hat))
                              repeat (go_quiet (first | ((with_reducible refine gate_dst (N := 45) rfl ?_); refine Kd.R_lit k47 _ 47 ?hg (N := 45) ?hd (xs := ([] : List (S47))) (inner := []) (ok := fun _ => True) (okp := fun _ => True) ?hr ?hp (fun _ hk => hk) trivial (Below.refl _ _) (Nat.le_refl _) (by simp) ?_; (case hd => rfl); (case hg => rfl); (case hr => first | (go_simp; done) | (go_simp; rfl)); (case hp => exact (Reps.none _ _)); intro v114 w26 ho27 hb hg_ hnew_; clear hg_ hnew_; (first | rw [← Ny113.out] at ho27 | (simp only [Int.reduceToNat] at ho27; rw [← Ny113.out] at ho27)); have n0_ := Aside0.mk (Kd.R_lower ho27 (below_size (by repeat (first | (with_reducible first | exact HB.out | apply below_alloc | apply pw_below_drewN | apply below_drew1 | refine below_set ?_ GE102.out) | exact HB.out)))); have n1_ := Aside0.mk (blk_below (g := gb102) (o := .cells #[.string a1_0, .string a1_1, .bool true] 51 (0, 0)) (by (with_reducible repeat (first | refine blk_drewN ?_ _ | refine blk_drew ?_ | refine blk_alloc ?_ _)); exact BK102.out) hb); have n2_ := Aside0.mk (below_step (by repeat (first | (with_reducible first | exact HB.out | apply below_alloc | apply pw_below_drewN | apply below_drew1 | refine below_set ?_ GE102.out) | exact HB.out)) hb); clear BK102; clear HB; have HO115 := n0_; have BK102 := n1_; have HB := n2_; clear n0_ n1_ n2_; clear hb ho27; have q28 : (x5_2 : Int) ≤ ((l0.length : Int) : Int) := of_decide_eq_true (by first | (with_reducible assumption) | assumption); obtain ⟨i028, hi028, _, hsz28, _⟩ := info_parts info47; have hroom28 : l0.length ≤ c0 := HC0.out; have hC28 : Kd.C k47 _ A0 l0.length l0 := HR0.out; have hcut28 := cut_to (P := Tryz.prog) 40 47 .i64 Tryz.underlying40 hi028 A0 l0.length c0 x5_2 (of_decide_eq_true (by first | (with_reducible assumption) | assumption)) q28 hroom28; have hr28 := Kd.C_take (m := (x5_2 : Int).toNat) hC28 (by omega); have hy28 : y116.length = (x5_2 : Int).toNat := (by rw [Ny116.out, List.length_take]; omega); rw [← Ny116.out] at hr28; rw [← hy28] at hcut28; have HR119 := Aside0.mk hr28; have HC119 := Aside0.mk (show y116.length ≤ c0 from by omega); clear hr28 hC28 hroom28 hi028 hsz28; have KY28 := Aside0.mk hy28; clear hy28; replace q28 := eq_true q28) | ((with_reducible refine gate_builtin (b := .append) (xs := #[.tmp 45, .tmp 48]) rfl ?_); at_builtin; refine Kd.R_append_rows k47 (w0 := w) w.heap.size rfl (.tmp 45) (.tmp 48) 40 47 (.agg #[(.string ⟨#[]⟩), (.string ⟨#[]⟩)]) 32 rfl Tryz.underlying40 info47 rfl (by decide) (by omega) v114 y113 y116 _ _ _ (fun _ => True) (fun _ => False) rfl rfl ?aO ?aR (fun _ _ h => h) (fun _ h => h.elim) ?aF ?aB ?aS ?aL ?_; (case aR => repeat (first | exact (Kd.C_below HR119.out HB.out) | (with_reducible refine Kd.C_alloc ?_ _) | (with_reducible refine Kd.C_drewN ?_ _) | (with_reducible refine Kd.C_drew ?_))); (case aB => exact (by repeat (first | (with_reducible first | exact HB.out | apply below_alloc | apply pw_below_drewN | apply below_drew1 | refine below_set ?_ GE102.out) | exact HB.out))); (case aF => exact (fun _ _ => trivial)); (case aO => exact (by (with_reducible repeat (first | apply Kd.R_alloc | apply Kd.R_drewN | apply Kd.R_drew)); exact HO115.out)); (case aS => exact (below_size (by repeat (first | (with_reducible first | exact HB.out | apply below_alloc | apply pw_below_drewN | apply below_drew1 | refine below_set ?_ GE102.out) | exact HB.out)))); (case aL => have := LMc22.out; omega); intro v121 w29 ho hb hg hat; rw [← Ny120.out] at ho; have n0_ := Aside0.mk (blk_grown (g := gb102) (o := .cells #[.string a1_0, .string a1_1, .bool true] 51 (0, 0)) (by (with_reducible repeat (first | refine blk_drewN ?_ _ | refine blk_drew ?_ | refine blk_alloc ?_ _)); exact BK102.out) hg (Kd.R_ne HO115.out BK102.out (by decide))); have n1_ := Aside0.mk (hb); have n2_ := Aside0.mk (ho); clear BK102; clear HB; clear HO115; have BK102 := n0_; have HB := n1_; have HO122 := n2_; clear n0_ n1_ n2_; clear ho hb hg hat; have hcz30_0 : w29.cell? ⟨gb102, 0, none⟩ = some (.string a1_0) := (blk_cell BK102.out 0).trans rfl; have hcz30_1 : w29.cell? ⟨gb102, 1, none⟩ = some (.string a1_1) := (blk_cell BK102.out 1).trans rfl; have hcz30_2 : w29.cell? ⟨gb102, 2, none⟩ = some (.bool true) := (blk_cell BK102.out 2).trans rfl; have hfz30_0 := blk_frozen BK102.out 0; have hfz30_1 := blk_frozen BK102.out 1; have hfz30_2 := blk_frozen BK102.out 2) | ((with_reducible refine gate_builtin (b := .append) (xs := #[.tmp 61, .tmp 62]) rfl ?_); at_builtin; refine Kd.R_append_rows k47 (w0 := w) w.heap.size rfl (.tmp 61) (.tmp 62) 40 47 (.agg #[(.string ⟨#[]⟩), (.string ⟨#[]⟩)]) 32 rfl Tryz.underlying40 info47 rfl (by decide) (by omega) v121 y120 y109 _ _ _ (fun _ => True) (fun _ => False) rfl rfl ?aO ?aR (fun _ _ h => h) (fun _ h => h.elim) ?aF ?aB ?aS ?aL ?_; (case aR => repeat (first | exact (Kd.C_below HR112.out HB.out) | (with_reducible refine Kd.C_alloc ?_ _) | (with_reducible refine Kd.C_drewN ?_ _) | (with_reducible refine Kd.C_drew ?_))); (case aB => exact (by repeat (first | (with_reducible first | exact HB.out | apply below_alloc | apply pw_below_drewN | apply below_drew1 | refine below_set ?_ GE102.out) | exact HB.out))); (case aF => exact (fun _ _ => trivial)); (case aO => exact (by (with_reducible repeat (first | apply Kd.R_alloc | apply Kd.R_drewN | apply Kd.R_drew)); exact HO122.out)); (case aS => exact (below_size (by repeat (first | (with_reducible first | exact HB.out | apply below_alloc | apply pw_below_drewN | apply below_drew1 | refine below_set ?_ GE102.out) | exact HB.out)))); (case aL => have := LMc24.out; omega); intro v124 w31 ho hb hg hat; rw [← Ny123.out] at ho; have n0_ := Aside0.mk (blk_grown (g := gb102) (o := .cells #[.string a1_0, .string a1_1, .bool true] 51 (0, 0)) (by (with_reducible repeat (first | refine blk_drewN ?_ _ | refine blk_drew ?_ | refine blk_alloc ?_ _)); exact BK102.out) hg (Kd.R_ne HO122.out BK102.out (by decide))); have n1_ := Aside0.mk (hb); have n2_ := Aside0.mk (ho); clear BK102; clear HB; clear HO122; have BK102 := n0_; have HB := n1_; have HO125 := n2_; clear n0_ n1_ n2_; clear ho hb hg hat)); try go_wp2_with (first | ((with_reducible refine gate_dst (N := 45) rfl ?_); refine Kd.R_lit k47 _ 47 ?hg (N := 45) ?hd (xs := ([] : List (S47))) (inner := []) (ok := fun _ => True) (okp := fun _ => True) ?hr ?hp (fun _ hk => hk) trivial (Below.refl _ _) (Nat.le_refl _) (by simp) ?_; (case hd => rfl); (case hg => rfl); (case hr => first | (go_simp; done) | (go_simp; rfl)); (case hp => exact (Reps.none _ _)); intro v114 w26 ho27 hb hg_ hnew_; clear hg_ hnew_; (first | rw [← Ny113.out] at ho27 | (simp only [Int.reduceToNat] at ho27; rw [← Ny113.out] at ho27)); have n0_ := Aside0.mk (Kd.R_lower ho27 (below_size (by repeat (first | (with_reducible first | exact HB.out | apply below_alloc | apply pw_below_drewN | apply below_drew1 | refine below_set ?_ GE102.out) | exact HB.out)))); have n1_ := Aside0.mk (blk_below (g := gb102) (o := .cells #[.string a1_0, .string a1_1, .bool true] 51 (0, 0)) (by (with_reducible repeat (first | refine blk_drewN ?_ _ | refine blk_drew ?_ | refine blk_alloc ?_ _)); exact BK102.out) hb); have n2_ := Aside0.mk (below_step (by repeat (first | (with_reducible first | exact HB.out | apply below_alloc | apply pw_below_drewN | apply below_drew1 | refine below_set ?_ GE102.out) | exact HB.out)) hb); clear BK102; clear HB; have HO115 := n0_; have BK102 := n1_; have HB := n2_; clear n0_ n1_ n2_; clear hb ho27; have q28 : (x5_2 : Int) ≤ ((l0.length : Int) : Int) := of_decide_eq_true (by first | (with_reducible assumption) | assumption); obtain ⟨i028, hi028, _, hsz28, _⟩ := info_parts info47; have hroom28 : l0.length ≤ c0 := HC0.out; have hC28 : Kd.C k47 _ A0 l0.length l0 := HR0.out; have hcut28 := cut_to (P := Tryz.prog) 40 47 .i64 Tryz.underlying40 hi028 A0 l0.length c0 x5_2 (of_decide_eq_true (by first | (with_reducible assumption) | assumption)) q28 hroom28; have hr28 := Kd.C_take (m := (x5_2 : Int).toNat) hC28 (by omega); have hy28 : y116.length = (x5_2 : Int).toNat := (by rw [Ny116.out, List.length_take]; omega); rw [← Ny116.out] at hr28; rw [← hy28] at hcut28; have HR119 := Aside0.mk hr28; have HC119 := Aside0.mk (show y116.length ≤ c0 from by omega); clear hr28 hC28 hroom28 hi028 hsz28; have KY28 := Aside0.mk hy28; clear hy28; replace q28 := eq_true q28) | ((with_reducible refine gate_builtin (b := .append) (xs := #[.tmp 45, .tmp 48]) rfl ?_); at_builtin; refine Kd.R_append_rows k47 (w0 := w) w.heap.size rfl (.tmp 45) (.tmp 48) 40 47 (.agg #[(.string ⟨#[]⟩), (.string ⟨#[]⟩)]) 32 rfl Tryz.underlying40 info47 rfl (by decide) (by omega) v114 y113 y116 _ _ _ (fun _ => True) (fun _ => False) rfl rfl ?aO ?aR (fun _ _ h => h) (fun _ h => h.elim) ?aF ?aB ?aS ?aL ?_; (case aR => repeat (first | exact (Kd.C_below HR119.out HB.out) | (with_reducible refine Kd.C_alloc ?_ _) | (with_reducible refine Kd.C_drewN ?_ _) | (with_reducible refine Kd.C_drew ?_))); (case aB => exact (by repeat (first | (with_reducible first | exact HB.out | apply below_alloc | apply pw_below_drewN | apply below_drew1 | refine below_set ?_ GE102.out) | exact HB.out))); (case aF => exact (fun _ _ => trivial)); (case aO => exact (by (with_reducible repeat (first | apply Kd.R_alloc | apply Kd.R_drewN | apply Kd.R_drew)); exact HO115.out)); (case aS => exact (below_size (by repeat (first | (with_reducible first | exact HB.out | apply below_alloc | apply pw_below_drewN | apply below_drew1 | refine below_set ?_ GE102.out) | exact HB.out)))); (case aL => have := LMc22.out; omega); intro v121 w29 ho hb hg hat; rw [← Ny120.out] at ho; have n0_ := Aside0.mk (blk_grown (g := gb102) (o := .cells #[.string a1_0, .string a1_1, .bool true] 51 (0, 0)) (by (with_reducible repeat (first | refine blk_drewN ?_ _ | refine blk_drew ?_ | refine blk_alloc ?_ _)); exact BK102.out) hg (Kd.R_ne HO115.out BK102.out (by decide))); have n1_ := Aside0.mk (hb); have n2_ := Aside0.mk (ho); clear BK102; clear HB; clear HO115; have BK102 := n0_; have HB := n1_; have HO122 := n2_; clear n0_ n1_ n2_; clear ho hb hg hat; have hcz30_0 : w29.cell? ⟨gb102, 0, none⟩ = some (.string a1_0) := (blk_cell BK102.out 0).trans rfl; have hcz30_1 : w29.cell? ⟨gb102, 1, none⟩ = some (.string a1_1) := (blk_cell BK102.out 1).trans rfl; have hcz30_2 : w29.cell? ⟨gb102, 2, none⟩ = some (.bool true) := (blk_cell BK102.out 2).trans rfl; have hfz30_0 := blk_frozen BK102.out 0; have hfz30_1 := blk_frozen BK102.out 1; have hfz30_2 := blk_frozen BK102.out 2) | ((with_reducible refine gate_builtin (b := .append) (xs := #[.tmp 61, .tmp 62]) rfl ?_); at_builtin; refine Kd.R_append_rows k47 (w0 := w) w.heap.size rfl (.tmp 61) (.tmp 62) 40 47 (.agg #[(.string ⟨#[]⟩), (.string ⟨#[]⟩)]) 32 rfl Tryz.underlying40 info47 rfl (by decide) (by omega) v121 y120 y109 _ _ _ (fun _ => True) (fun _ => False) rfl rfl ?aO ?aR (fun _ _ h => h) (fun _ h => h.elim) ?aF ?aB ?aS ?aL ?_; (case aR => repeat (first | exact (Kd.C_below HR112.out HB.out) | (with_reducible refine Kd.C_alloc ?_ _) | (with_reducible refine Kd.C_drewN ?_ _) | (with_reducible refine Kd.C_drew ?_))); (case aB => exact (by repeat (first | (with_reducible first | exact HB.out | apply below_alloc | apply pw_below_drewN | apply below_drew1 | refine below_set ?_ GE102.out) | exact HB.out))); (case aF => exact (fun _ _ => trivial)); (case aO => exact (by (with_reducible repeat (first | apply Kd.R_alloc | apply Kd.R_drewN | apply Kd.R_drew)); exact HO122.out)); (case aS => exact (below_size (by repeat (first | (with_reducible first | exact HB.out | apply below_alloc | apply pw_below_drewN | apply below_drew1 | refine below_set ?_ GE102.out) | exact HB.out)))); (case aL => have := LMc24.out; omega); intro v124 w31 ho hb hg hat; rw [← Ny123.out] at ho; have n0_ := Aside0.mk (blk_grown (g := gb102) (o := .cells #[.string a1_0, .string a1_1, .bool true] 51 (0, 0)) (by (with_reducible repeat (first | refine blk_drewN ?_ _ | refine blk_drew ?_ | refine blk_alloc ?_ _)); exact BK102.out) hg (Kd.R_ne HO122.out BK102.out (by decide))); have n1_ := Aside0.mk (hb); have n2_ := Aside0.mk (ho); clear BK102; clear HB; clear HO122; have BK102 := n0_; have HB := n1_; have HO125 := n2_; clear n0_ n1_ n2_; clear ho hb hg hat)))
                              go_ret
                              exact ⟨_, by first | rfl | (simp [errW_none, errW_some] <;> rfl) | (simp only [← hji17]; first | rfl | (simp [errW_none, errW_some] <;> rfl)) | (simp [*, errW_none, errW_some] <;> rfl), by (with_reducible repeat (first | apply Kd.R_alloc | apply Kd.R_drewN | apply Kd.R_drew)); exact HO125.out, by repeat (first | (with_reducible first | exact HB.out | apply below_alloc | apply pw_below_drewN | apply below_drew1 | refine below_set ?_ GE102.out) | exact HB.out)⟩
                            · rw [if_neg c24] at H
                              exact absurd H (by simp)
                          · replace c23 := Bool.eq_false_iff.mpr c23
                            subst c23
                            have H1 : (if y120.length < 4398046511104 then ((some (y120 ++ [(⟨a1_0, a1_1⟩ : S47)] : List (S47))).bind fun y126 => (if y126.length + y109.length < 4398046511104 then (some (y126 ++ y109)) else (none))) else (none)) = some r := by rw [if_neg (show ¬ (false = true) by decide)] at H; exact H
                            clear H
                            have H := H1
                            clear H1
                            by_cases c32 : y120.length < 4398046511104
                            · rw [if_pos c32] at H
                              have LMc32 := Aside0.mk c32
                              clear c32
                              obtain ⟨y126, hy126⟩ : ∃ y_ : List (S47), y_ = (y120 ++ [(⟨a1_0, a1_1⟩ : S47)]) := ⟨_, rfl⟩
                              replace H : (if y126.length + y109.length < 4398046511104 then (some (y126 ++ y109)) else (none)) = some r := by first | (rw [hy126]; with_reducible exact H) | (have H2_ := (Option.bind_some _ _).symm.trans H; rw [hy126]; with_reducible exact H2_) | (have H2_ := (Option.bind_some _ _).symm.trans H; with_reducible exact H2_) | with_reducible exact H | (rw [hy126]; exact H) | exact H
                              have Ny126 := Aside0.mk hy126
                              clear hy126
                              by_cases c33 : y126.length + y109.length < 4398046511104
                              · rw [if_pos c33] at H
                                have LMc33 := Aside0.mk c33
                                clear c33
                                obtain ⟨y129, hy129⟩ : ∃ y_ : List (S47), y_ = (y126 ++ y109) := ⟨_, rfl⟩
                                replace H : (some y129) = some r := by first | (rw [hy129]; with_reducible exact H) | (have H2_ := (Option.bind_some _ _).symm.trans H; rw [hy129]; with_reducible exact H2_) | (have H2_ := (Option.bind_some _ _).symm.trans H; with_reducible exact H2_) | with_reducible exact H | (rw [hy129]; exact H) | exact H
                                have Ny129 := Aside0.mk hy129
                                clear hy129
                                obtain rfl := Option.some.inj H
                                have q34 : ((ji17) : Int) ≤ ((l0.length : Int) : Int) := of_decide_eq_true (by first | (with_reducible assumption) | assumption)
                                obtain ⟨i034, hi034, _, hsz34, _⟩ := info_parts info47
                                have hroom34 : l0.length ≤ c0 := HC0.out
                                have hC34 : Kd.C k47 _ A0 l0.length l0 := HR0.out
                                have q034 : (0 : Int) ≤ ((ji17) : Int) := of_decide_eq_true (by first | (with_reducible assumption) | assumption)
                                have hcut34 := cut_from (P := Tryz.prog) 40 47 .i64 Tryz.underlying40 hi034 2 hsz34 A0 l0.length c0 (ji17) q034 q34
                                have hr34 := Kd.C_drop (m := ((ji17) : Int).toNat) (c := c0) hC34 (by omega) hroom34
                                obtain ⟨A34, hA34⟩ : ∃ A1, A1 = (if c0 = ((ji17) : Int).toNat then A0 else (A0 : Option Addr).map (·.add (((ji17) : Int).toNat * 2))) := ⟨_, rfl⟩
                                obtain ⟨c34, hc34⟩ : ∃ c1, c1 = c0 - ((ji17) : Int).toNat := ⟨_, rfl⟩
                                have hy34 : y109.length = l0.length - ((ji17) : Int).toNat := (by rw [Ny109.out, List.length_drop] <;> omega)
                                rw [show (l0).drop ((ji17) : Int).toNat = y109 from Ny109.out.symm] at hr34
                                replace hr34 : Kd.C k47 _ A34 y109.length y109 := (by rw [hA34]; exact hr34)
                                rw [← hy34, ← hA34, ← hc34] at hcut34
                                have HR112 := Aside0.mk hr34
                                have HC112 := Aside0.mk (show y109.length ≤ c34 from by rw [hy34, hc34]; exact Nat.sub_le_sub_right hroom34 _)
                                clear hr34 hC34 hroom34 hi034 hsz34 hc34
                                have KY34 := Aside0.mk hy34
                                have KA34 := Aside0.mk hA34
                                clear hy34 hA34
                                replace q34 := eq_true q34
                                go_wp2_with (first | ((with_reducible refine gate_dst (N := 45) rfl ?_); refine Kd.R_lit k47 _ 47 ?hg (N := 45) ?hd (xs := ([] : List (S47))) (inner := []) (ok := fun _ => True) (okp := fun _ => True) ?hr ?hp (fun _ hk => hk) trivial (Below.refl _ _) (Nat.le_refl _) (by simp) ?_; (case hd => rfl); (case hg => rfl); (case hr => first | (go_simp; done) | (go_simp; rfl)); (case hp => exact (Reps.none _ _)); intro v114 w35 ho36 hb hg_ hnew_; clear hg_ hnew_; (first | rw [← Ny113.out] at ho36 | (simp only [Int.reduceToNat] at ho36; rw [← Ny113.out] at ho36)); have n0_ := Aside0.mk (Kd.R_lower ho36 (below_size (by repeat (first | (with_reducible first | exact HB.out | apply below_alloc | apply pw_below_drewN | apply below_drew1 | refine below_set ?_ GE102.out) | exact HB.out)))); have n1_ := Aside0.mk (blk_below (g := gb102) (o := .cells #[.string a1_0, .string a1_1, .bool false] 51 (0, 0)) (by (with_reducible repeat (first | refine blk_drewN ?_ _ | refine blk_drew ?_ | refine blk_alloc ?_ _)); exact BK102.out) hb); have n2_ := Aside0.mk (below_step (by repeat (first | (with_reducible first | exact HB.out | apply below_alloc | apply pw_below_drewN | apply below_drew1 | refine below_set ?_ GE102.out) | exact HB.out)) hb); clear BK102; clear HB; have HO115 := n0_; have BK102 := n1_; have HB := n2_; clear n0_ n1_ n2_; clear hb ho36; have q37 : (x5_2 : Int) ≤ ((l0.length : Int) : Int) := of_decide_eq_true (by first | (with_reducible assumption) | assumption); obtain ⟨i037, hi037, _, hsz37, _⟩ := info_parts info47; have hroom37 : l0.length ≤ c0 := HC0.out; have hC37 : Kd.C k47 _ A0 l0.length l0 := HR0.out; have hcut37 := cut_to (P := Tryz.prog) 40 47 .i64 Tryz.underlying40 hi037 A0 l0.length c0 x5_2 (of_decide_eq_true (by first | (with_reducible assumption) | assumption)) q37 hroom37; have hr37 := Kd.C_take (m := (x5_2 : Int).toNat) hC37 (by omega); have hy37 : y116.length = (x5_2 : Int).toNat := (by rw [Ny116.out, List.length_take]; omega); rw [← Ny116.out] at hr37; rw [← hy37] at hcut37; have HR119 := Aside0.mk hr37; have HC119 := Aside0.mk (show y116.length ≤ c0 from by omega); clear hr37 hC37 hroom37 hi037 hsz37; have KY37 := Aside0.mk hy37; clear hy37; replace q37 := eq_true q37) | ((with_reducible refine gate_builtin (b := .append) (xs := #[.tmp 45, .tmp 48]) rfl ?_); at_builtin; refine Kd.R_append_rows k47 (w0 := w) w.heap.size rfl (.tmp 45) (.tmp 48) 40 47 (.agg #[(.string ⟨#[]⟩), (.string ⟨#[]⟩)]) 32 rfl Tryz.underlying40 info47 rfl (by decide) (by omega) v114 y113 y116 _ _ _ (fun _ => True) (fun _ => False) rfl rfl ?aO ?aR (fun _ _ h => h) (fun _ h => h.elim) ?aF ?aB ?aS ?aL ?_; (case aR => repeat (first | exact (Kd.C_below HR119.out HB.out) | (with_reducible refine Kd.C_alloc ?_ _) | (with_reducible refine Kd.C_drewN ?_ _) | (with_reducible refine Kd.C_drew ?_))); (case aB => exact (by repeat (first | (with_reducible first | exact HB.out | apply below_alloc | apply pw_below_drewN | apply below_drew1 | refine below_set ?_ GE102.out) | exact HB.out))); (case aF => exact (fun _ _ => trivial)); (case aO => exact (by (with_reducible repeat (first | apply Kd.R_alloc | apply Kd.R_drewN | apply Kd.R_drew)); exact HO115.out)); (case aS => exact (below_size (by repeat (first | (with_reducible first | exact HB.out | apply below_alloc | apply pw_below_drewN | apply below_drew1 | refine below_set ?_ GE102.out) | exact HB.out)))); (case aL => have := LMc22.out; omega); intro v121 w38 ho hb hg hat; rw [← Ny120.out] at ho; have n0_ := Aside0.mk (blk_grown (g := gb102) (o := .cells #[.string a1_0, .string a1_1, .bool false] 51 (0, 0)) (by (with_reducible repeat (first | refine blk_drewN ?_ _ | refine blk_drew ?_ | refine blk_alloc ?_ _)); exact BK102.out) hg (Kd.R_ne HO115.out BK102.out (by decide))); have n1_ := Aside0.mk (hb); have n2_ := Aside0.mk (ho); clear BK102; clear HB; clear HO115; have BK102 := n0_; have HB := n1_; have HO122 := n2_; clear n0_ n1_ n2_; clear ho hb hg hat; have hcz39_0 : w38.cell? ⟨gb102, 0, none⟩ = some (.string a1_0) := (blk_cell BK102.out 0).trans rfl; have hcz39_1 : w38.cell? ⟨gb102, 1, none⟩ = some (.string a1_1) := (blk_cell BK102.out 1).trans rfl; have hcz39_2 : w38.cell? ⟨gb102, 2, none⟩ = some (.bool false) := (blk_cell BK102.out 2).trans rfl; have hfz39_0 := blk_frozen BK102.out 0; have hfz39_1 := blk_frozen BK102.out 1; have hfz39_2 := blk_frozen BK102.out 2) | ((with_reducible refine gate_builtin (b := .append) (xs := #[.tmp 53, .tmp 59]) rfl ?_); at_builtin; refine Kd.R_append k47 (w0 := w) w.heap.size rfl (.tmp 53) (.tmp 59) 40 47 (.agg #[(.string ⟨#[]⟩), (.string ⟨#[]⟩)]) 32 rfl Tryz.underlying40 info47 rfl (by decide) (by omega) v121 y120 (⟨a1_0, a1_1⟩ : S47) [.string a1_0, .string a1_1] (fun _ => True) (fun _ => False) rfl rfl ?aP (fun _ hk => hk.elim) ?aF ?aO ?aB ?aS ?aL ?_; (case aP => exact k47_mkM _ _ _ (⟨a1_0, a1_1⟩ : S47)); (case aB => exact (by repeat (first | (with_reducible first | exact HB.out | apply below_alloc | apply pw_below_drewN | apply below_drew1 | refine below_set ?_ GE102.out) | exact HB.out))); (case aF => exact (fun _ _ => trivial)); (case aO => exact (by (with_reducible repeat (first | apply Kd.R_alloc | apply Kd.R_drewN | apply Kd.R_drew)); exact HO122.out)); (case aS => exact (below_size (by repeat (first | (with_reducible first | exact HB.out | apply below_alloc | apply pw_below_drewN | apply below_drew1 | refine below_set ?_ GE102.out) | exact HB.out)))); (case aL => have := LMc32.out; omega); intro v127 w40 ho hb hg hat; rw [← Ny126.out] at ho; have n0_ := Aside0.mk (blk_grown (g := gb102) (o := .cells #[.string a1_0, .string a1_1, .bool false] 51 (0, 0)) (by (with_reducible repeat (first | refine blk_drewN ?_ _ | refine blk_drew ?_ | refine blk_alloc ?_ _)); exact BK102.out) hg (Kd.R_ne HO122.out BK102.out (by decide))); have n1_ := Aside0.mk (hb); have n2_ := Aside0.mk (ho); clear BK102; clear HB; clear HO122; have BK102 := n0_; have HB := n1_; have HO128 := n2_; clear n0_ n1_ n2_; clear ho hb hg hat) | ((with_reducible refine gate_builtin (b := .append) (xs := #[.tmp 61, .tmp 62]) rfl ?_); at_builtin; refine Kd.R_append_rows k47 (w0 := w) w.heap.size rfl (.tmp 61) (.tmp 62) 40 47 (.agg #[(.string ⟨#[]⟩), (.string ⟨#[]⟩)]) 32 rfl Tryz.underlying40 info47 rfl (by decide) (by omega) v127 y126 y109 _ _ _ (fun _ => True) (fun _ => False) rfl rfl ?aO ?aR (fun _ _ h => h) (fun _ h => h.elim) ?aF ?aB ?aS ?aL ?_; (case aR => repeat (first | exact (Kd.C_below HR112.out HB.out) | (with_reducible refine Kd.C_alloc ?_ _) | (with_reducible refine Kd.C_drewN ?_ _) | (with_reducible refine Kd.C_drew ?_))); (case aB => exact (by repeat (first | (with_reducible first | exact HB.out | apply below_alloc | apply pw_below_drewN | apply below_drew1 | refine below_set ?_ GE102.out) | exact HB.out))); (case aF => exact (fun _ _ => trivial)); (case aO => exact (by (with_reducible repeat (first | apply Kd.R_alloc | apply Kd.R_drewN | apply Kd.R_drew)); exact HO128.out)); (case aS => exact (below_size (by repeat (first | (with_reducible first | exact HB.out | apply below_alloc | apply pw_below_drewN | apply below_drew1 | refine below_set ?_ GE102.out) | exact HB.out)))); (case aL => have := LMc33.out; omega); intro v130 w41 ho hb hg hat; rw [← Ny129.out] at ho; have n0_ := Aside0.mk (blk_grown (g := gb102) (o := .cells #[.string a1_0, .string a1_1, .bool false] 51 (0, 0)) (by (with_reducible repeat (first | refine blk_drewN ?_ _ | refine blk_drew ?_ | refine blk_alloc ?_ _)); exact BK102.out) hg (Kd.R_ne HO128.out BK102.out (by decide))); have n1_ := Aside0.mk (hb); have n2_ := Aside0.mk (ho); clear BK102; clear HB; clear HO128; have BK102 := n0_; have HB := n1_; have HO131 := n2_; clear n0_ n1_ n2_; clear ho hb hg hat))
                                repeat (go_quiet (first | ((with_reducible refine gate_dst (N := 45) rfl ?_); refine Kd.R_lit k47 _ 47 ?hg (N := 45) ?hd (xs := ([] : List (S47))) (inner := []) (ok := fun _ => True) (okp := fun _ => True) ?hr ?hp (fun _ hk => hk) trivial (Below.refl _ _) (Nat.le_refl _) (by simp) ?_; (case hd => rfl); (case hg => rfl); (case hr => first | (go_simp; done) | (go_simp; rfl)); (case hp => exact (Reps.none _ _)); intro v114 w35 ho36 hb hg_ hnew_; clear hg_ hnew_; (first | rw [← Ny113.out] at ho36 | (simp only [Int.reduceToNat] at ho36; rw [← Ny113.out] at ho36)); have n0_ := Aside0.mk (Kd.R_lower ho36 (below_size (by repeat (first | (with_reducible first | exact HB.out | apply below_alloc | apply pw_below_drewN | apply below_drew1 | refine below_set ?_ GE102.out) | exact HB.out)))); have n1_ := Aside0.mk (blk_below (g := gb102) (o := .cells #[.string a1_0, .string a1_1, .bool false] 51 (0, 0)) (by (with_reducible repeat (first | refine blk_drewN ?_ _ | refine blk_drew ?_ | refine blk_alloc ?_ _)); exact BK102.out) hb); have n2_ := Aside0.mk (below_step (by repeat (first | (with_reducible first | exact HB.out | apply below_alloc | apply pw_below_drewN | apply below_drew1 | refine below_set ?_ GE102.out) | exact HB.out)) hb); clear BK102; clear HB; have HO115 := n0_; have BK102 := n1_; have HB := n2_; clear n0_ n1_ n2_; clear hb ho36; have q37 : (x5_2 : Int) ≤ ((l0.length : Int) : Int) := of_decide_eq_true (by first | (with_reducible assumption) | assumption); obtain ⟨i037, hi037, _, hsz37, _⟩ := info_parts info47; have hroom37 : l0.length ≤ c0 := HC0.out; have hC37 : Kd.C k47 _ A0 l0.length l0 := HR0.out; have hcut37 := cut_to (P := Tryz.prog) 40 47 .i64 Tryz.underlying40 hi037 A0 l0.length c0 x5_2 (of_decide_eq_true (by first | (with_reducible assumption) | assumption)) q37 hroom37; have hr37 := Kd.C_take (m := (x5_2 : Int).toNat) hC37 (by omega); have hy37 : y116.length = (x5_2 : Int).toNat := (by rw [Ny116.out, List.length_take]; omega); rw [← Ny116.out] at hr37; rw [← hy37] at hcut37; have HR119 := Aside0.mk hr37; have HC119 := Aside0.mk (show y116.length ≤ c0 from by omega); clear hr37 hC37 hroom37 hi037 hsz37; have KY37 := Aside0.mk hy37; clear hy37; replace q37 := eq_true q37) | ((with_reducible refine gate_builtin (b := .append) (xs := #[.tmp 45, .tmp 48]) rfl ?_); at_builtin; refine Kd.R_append_rows k47 (w0 := w) w.heap.size rfl (.tmp 45) (.tmp 48) 40 47 (.agg #[(.string ⟨#[]⟩), (.string ⟨#[]⟩)]) 32 rfl Tryz.underlying40 info47 rfl (by decide) (by omega) v114 y113 y116 _ _ _ (fun _ => True) (fun _ => False) rfl rfl ?aO ?aR (fun _ _ h => h) (fun _ h => h.elim) ?aF ?aB ?aS ?aL ?_; (case aR => repeat (first | exact (Kd.C_below HR119.out HB.out) | (with_reducible refine Kd.C_alloc ?_ _) | (with_reducible refine Kd.C_drewN ?_ _) | (with_reducible refine Kd.C_drew ?_))); (case aB => exact (by repeat (first | (with_reducible first | exact HB.out | apply below_alloc | apply pw_below_drewN | apply below_drew1 | refine below_set ?_ GE102.out) | exact HB.out))); (case aF => exact (fun _ _ => trivial)); (case aO => exact (by (with_reducible repeat (first | apply Kd.R_alloc | apply Kd.R_drewN | apply Kd.R_drew)); exact HO115.out)); (case aS => exact (below_size (by repeat (first | (with_reducible first | exact HB.out | apply below_alloc | apply pw_below_drewN | apply below_drew1 | refine below_set ?_ GE102.out) | exact HB.out)))); (case aL => have := LMc22.out; omega); intro v121 w38 ho hb hg hat; rw [← Ny120.out] at ho; have n0_ := Aside0.mk (blk_grown (g := gb102) (o := .cells #[.string a1_0, .string a1_1, .bool false] 51 (0, 0)) (by (with_reducible repeat (first | refine blk_drewN ?_ _ | refine blk_drew ?_ | refine blk_alloc ?_ _)); exact BK102.out) hg (Kd.R_ne HO115.out BK102.out (by decide))); have n1_ := Aside0.mk (hb); have n2_ := Aside0.mk (ho); clear BK102; clear HB; clear HO115; have BK102 := n0_; have HB := n1_; have HO122 := n2_; clear n0_ n1_ n2_; clear ho hb hg hat; have hcz39_0 : w38.cell? ⟨gb102, 0, none⟩ = some (.string a1_0) := (blk_cell BK102.out 0).trans rfl; have hcz39_1 : w38.cell? ⟨gb102, 1, none⟩ = some (.string a1_1) := (blk_cell BK102.out 1).trans rfl; have hcz39_2 : w38.cell? ⟨gb102, 2, none⟩ = some (.bool false) := (blk_cell BK102.out 2).trans rfl; have hfz39_0 := blk_frozen BK102.out 0; have hfz39_1 := blk_frozen BK102.out 1; have hfz39_2 := blk_frozen BK102.out 2) | ((with_reducible refine gate_builtin (b := .append) (xs := #[.tmp 53, .tmp 59]) rfl ?_); at_builtin; refine Kd.R_append k47 (w0 := w) w.heap.size rfl (.tmp 53) (.tmp 59) 40 47 (.agg #[(.string ⟨#[]⟩), (.string ⟨#[]⟩)]) 32 rfl Tryz.underlying40 info47 rfl (by decide) (by omega) v121 y120 (⟨a1_0, a1_1⟩ : S47) [.string a1_0, .string a1_1] (fun _ => True) (fun _ => False) rfl rfl ?aP (fun _ hk => hk.elim) ?aF ?aO ?aB ?aS ?aL ?_; (case aP => exact k47_mkM _ _ _ (⟨a1_0, a1_1⟩ : S47)); (case aB => exact (by repeat (first | (with_reducible first | exact HB.out | apply below_alloc | apply pw_below_drewN | apply below_drew1 | refine below_set ?_ GE102.out) | exact HB.out))); (case aF => exact (fun _ _ => trivial)); (case aO => exact (by (with_reducible repeat (first | apply Kd.R_alloc | apply Kd.R_drewN | apply Kd.R_drew)); exact HO122.out)); (case aS => exact (below_size (by repeat (first | (with_reducible first | exact HB.out | apply below_alloc | apply pw_below_drewN | apply below_drew1 | refine below_set ?_ GE102.out) | exact HB.out)))); (case aL => have := LMc32.out; omega); intro v127 w40 ho hb hg hat; rw [← Ny126.out] at ho; have n0_ := Aside0.mk (blk_grown (g := gb102) (o := .cells #[.string a1_0, .string a1_1, .bool false] 51 (0, 0)) (by (with_reducible repeat (first | refine blk_drewN ?_ _ | refine blk_drew ?_ | refine blk_alloc ?_ _)); exact BK102.out) hg (Kd.R_ne HO122.out BK102.out (by decide))); have n1_ := Aside0.mk (hb); have n2_ := Aside0.mk (ho); clear BK102; clear HB; clear HO122; have BK102 := n0_; have HB := n1_; have HO128 := n2_; clear n0_ n1_ n2_; clear ho hb hg hat) | ((with_reducible refine gate_builtin (b := .append) (xs := #[.tmp 61, .tmp 62]) rfl ?_); at_builtin; refine Kd.R_append_rows k47 (w0 := w) w.heap.size rfl (.tmp 61) (.tmp 62) 40 47 (.agg #[(.string ⟨#[]⟩), (.string ⟨#[]⟩)]) 32 rfl Tryz.underlying40 info47 rfl (by decide) (by omega) v127 y126 y109 _ _ _ (fun _ => True) (fun _ => False) rfl rfl ?aO ?aR (fun _ _ h => h) (fun _ h => h.elim) ?aF ?aB ?aS ?aL ?_; (case aR => repeat (first | exact (Kd.C_below HR112.out HB.out) | (with_reducible refine Kd.C_alloc ?_ _) | (with_reducible refine Kd.C_drewN ?_ _) | (with_reducible refine Kd.C_drew ?_))); (case aB => exact (by repeat (first | (with_reducible first | exact HB.out | apply below_alloc | apply pw_below_drewN | apply below_drew1 | refine below_set ?_ GE102.out) | exact HB.out))); (case aF => exact (fun _ _ => trivial)); (case aO => exact (by (with_reducible repeat (first | apply Kd.R_alloc | apply Kd.R_drewN | apply Kd.R_drew)); exact HO128.out)); (case aS => exact (below_size (by repeat (first | (with_reducible first | exact HB.out | apply below_alloc | apply pw_below_drewN | apply below_drew1 | refine below_set ?_ GE102.out) | exact HB.out)))); (case aL => have := LMc33.out; omega); intro v130 w41 ho hb hg hat; rw [← Ny129.out] at ho; have n0_ := Aside0.mk (blk_grown (g := gb102) (o := .cells #[.string a1_0, .string a1_1, .bool false] 51 (0, 0)) (by (with_reducible repeat (first | refine blk_drewN ?_ _ | refine blk_drew ?_ | refine blk_alloc ?_ _)); exact BK102.out) hg (Kd.R_ne HO128.out BK102.out (by decide))); have n1_ := Aside0.mk (hb); have n2_ := Aside0.mk (ho); clear BK102; clear HB; clear HO128; have BK102 := n0_; have HB := n1_; have HO131 := n2_; clear n0_ n1_ n2_; clear ho hb hg hat)); try go_wp2_with (first | ((with_reducible refine gate_dst (N := 45) rfl ?_); refine Kd.R_lit k47 _ 47 ?hg (N := 45) ?hd (xs := ([] : List (S47))) (inner := []) (ok := fun _ => True) (okp := fun _ => True) ?hr ?hp (fun _ hk => hk) trivial (Below.refl _ _) (Nat.le_refl _) (by simp) ?_; (case hd => rfl); (case hg => rfl); (case hr => first | (go_simp; done) | (go_simp; rfl)); (case hp => exact (Reps.none _ _)); intro v114 w35 ho36 hb hg_ hnew_; clear hg_ hnew_; (first | rw [← Ny113.out] at ho36 | (simp only [Int.reduceToNat] at ho36; rw [← Ny113.out] at ho36)); have n0_ := Aside0.mk (Kd.R_lower ho36 (below_size (by repeat (first | (with_reducible first | exact HB.out | apply below_alloc | apply pw_below_drewN | apply below_drew1 | refine below_set ?_ GE102.out) | exact HB.out)))); have n1_ := Aside0.mk (blk_below (g := gb102) (o := .cells #[.string a1_0, .string a1_1, .bool false] 51 (0, 0)) (by (with_reducible repeat (first | refine blk_drewN ?_ _ | refine blk_drew ?_ | refine blk_alloc ?_ _)); exact BK102.out) hb); have n2_ := Aside0.mk (below_step (by repeat (first | (with_reducible first | exact HB.out | apply below_alloc | apply pw_below_drewN | apply below_drew1 | refine below_set ?_ GE102.out) | exact HB.out)) hb); clear BK102; clear HB; have HO115 := n0_; have BK102 := n1_; have HB := n2_; clear n0_ n1_ n2_; clear hb ho36; have q37 : (x5_2 : Int) ≤ ((l0.length : Int) : Int) := of_decide_eq_true (by first | (with_reducible assumption) | assumption); obtain ⟨i037, hi037, _, hsz37, _⟩ := info_parts info47; have hroom37 : l0.length ≤ c0 := HC0.out; have hC37 : Kd.C k47 _ A0 l0.length l0 := HR0.out; have hcut37 := cut_to (P := Tryz.prog) 40 47 .i64 Tryz.underlying40 hi037 A0 l0.length c0 x5_2 (of_decide_eq_true (by first | (with_reducible assumption) | assumption)) q37 hroom37; have hr37 := Kd.C_take (m := (x5_2 : Int).toNat) hC37 (by omega); have hy37 : y116.length = (x5_2 : Int).toNat := (by rw [Ny116.out, List.length_take]; omega); rw [← Ny116.out] at hr37; rw [← hy37] at hcut37; have HR119 := Aside0.mk hr37; have HC119 := Aside0.mk (show y116.length ≤ c0 from by omega); clear hr37 hC37 hroom37 hi037 hsz37; have KY37 := Aside0.mk hy37; clear hy37; replace q37 := eq_true q37) | ((with_reducible refine gate_builtin (b := .append) (xs := #[.tmp 45, .tmp 48]) rfl ?_); at_builtin; refine Kd.R_append_rows k47 (w0 := w) w.heap.size rfl (.tmp 45) (.tmp 48) 40 47 (.agg #[(.string ⟨#[]⟩), (.string ⟨#[]⟩)]) 32 rfl Tryz.underlying40 info47 rfl (by decide) (by omega) v114 y113 y116 _ _ _ (fun _ => True) (fun _ => False) rfl rfl ?aO ?aR (fun _ _ h => h) (fun _ h => h.elim) ?aF ?aB ?aS ?aL ?_; (case aR => repeat (first | exact (Kd.C_below HR119.out HB.out) | (with_reducible refine Kd.C_alloc ?_ _) | (with_reducible refine Kd.C_drewN ?_ _) | (with_reducible refine Kd.C_drew ?_))); (case aB => exact (by repeat (first | (with_reducible first | exact HB.out | apply below_alloc | apply pw_below_drewN | apply below_drew1 | refine below_set ?_ GE102.out) | exact HB.out))); (case aF => exact (fun _ _ => trivial)); (case aO => exact (by (with_reducible repeat (first | apply Kd.R_alloc | apply Kd.R_drewN | apply Kd.R_drew)); exact HO115.out)); (case aS => exact (below_size (by repeat (first | (with_reducible first | exact HB.out | apply below_alloc | apply pw_below_drewN | apply below_drew1 | refine below_set ?_ GE102.out) | exact HB.out)))); (case aL => have := LMc22.out; omega); intro v121 w38 ho hb hg hat; rw [← Ny120.out] at ho; have n0_ := Aside0.mk (blk_grown (g := gb102) (o := .cells #[.string a1_0, .string a1_1, .bool false] 51 (0, 0)) (by (with_reducible repeat (first | refine blk_drewN ?_ _ | refine blk_drew ?_ | refine blk_alloc ?_ _)); exact BK102.out) hg (Kd.R_ne HO115.out BK102.out (by decide))); have n1_ := Aside0.mk (hb); have n2_ := Aside0.mk (ho); clear BK102; clear HB; clear HO115; have BK102 := n0_; have HB := n1_; have HO122 := n2_; clear n0_ n1_ n2_; clear ho hb hg hat; have hcz39_0 : w38.cell? ⟨gb102, 0, none⟩ = some (.string a1_0) := (blk_cell BK102.out 0).trans rfl; have hcz39_1 : w38.cell? ⟨gb102, 1, none⟩ = some (.string a1_1) := (blk_cell BK102.out 1).trans rfl; have hcz39_2 : w38.cell? ⟨gb102, 2, none⟩ = some (.bool false) := (blk_cell BK102.out 2).trans rfl; have hfz39_0 := blk_frozen BK102.out 0; have hfz39_1 := blk_frozen BK102.out 1; have hfz39_2 := blk_frozen BK102.out 2) | ((with_reducible refine gate_builtin (b := .append) (xs := #[.tmp 53, .tmp 59]) rfl ?_); at_builtin; refine Kd.R_append k47 (w0 := w) w.heap.size rfl (.tmp 53) (.tmp 59) 40 47 (.agg #[(.string ⟨#[]⟩), (.string ⟨#[]⟩)]) 32 rfl Tryz.underlying40 info47 rfl (by decide) (by omega) v121 y120 (⟨a1_0, a1_1⟩ : S47) [.string a1_0, .string a1_1] (fun _ => True) (fun _ => False) rfl rfl ?aP (fun _ hk => hk.elim) ?aF ?aO ?aB ?aS ?aL ?_; (case aP => exact k47_mkM _ _ _ (⟨a1_0, a1_1⟩ : S47)); (case aB => exact (by repeat (first | (with_reducible first | exact HB.out | apply below_alloc | apply pw_below_drewN | apply below_drew1 | refine below_set ?_ GE102.out) | exact HB.out))); (case aF => exact (fun _ _ => trivial)); (case aO => exact (by (with_reducible repeat (first | apply Kd.R_alloc | apply Kd.R_drewN | apply Kd.R_drew)); exact HO122.out)); (case aS => exact (below_size (by repeat (first | (with_reducible first | exact HB.out | apply below_alloc | apply pw_below_drewN | apply below_drew1 | refine below_set ?_ GE102.out) | exact HB.out)))); (case aL => have := LMc32.out; omega); intro v127 w40 ho hb hg hat; rw [← Ny126.out] at ho; have n0_ := Aside0.mk (blk_grown (g := gb102) (o := .cells #[.string a1_0, .string a1_1, .bool false] 51 (0, 0)) (by (with_reducible repeat (first | refine blk_drewN ?_ _ | refine blk_drew ?_ | refine blk_alloc ?_ _)); exact BK102.out) hg (Kd.R_ne HO122.out BK102.out (by decide))); have n1_ := Aside0.mk (hb); have n2_ := Aside0.mk (ho); clear BK102; clear HB; clear HO122; have BK102 := n0_; have HB := n1_; have HO128 := n2_; clear n0_ n1_ n2_; clear ho hb hg hat) | ((with_reducible refine gate_builtin (b := .append) (xs := #[.tmp 61, .tmp 62]) rfl ?_); at_builtin; refine Kd.R_append_rows k47 (w0 := w) w.heap.size rfl (.tmp 61) (.tmp 62) 40 47 (.agg #[(.string ⟨#[]⟩), (.string ⟨#[]⟩)]) 32 rfl Tryz.underlying40 info47 rfl (by decide) (by omega) v127 y126 y109 _ _ _ (fun _ => True) (fun _ => False) rfl rfl ?aO ?aR (fun _ _ h => h) (fun _ h => h.elim) ?aF ?aB ?aS ?aL ?_; (case aR => repeat (first | exact (Kd.C_below HR112.out HB.out) | (with_reducible refine Kd.C_alloc ?_ _) | (with_reducible refine Kd.C_drewN ?_ _) | (with_reducible refine Kd.C_drew ?_))); (case aB => exact (by repeat (first | (with_reducible first | exact HB.out | apply below_alloc | apply pw_below_drewN | apply below_drew1 | refine below_set ?_ GE102.out) | exact HB.out))); (case aF => exact (fun _ _ => trivial)); (case aO => exact (by (with_reducible repeat (first | apply Kd.R_alloc | apply Kd.R_drewN | apply Kd.R_drew)); exact HO128.out)); (case aS => exact (below_size (by repeat (first | (with_reducible first | exact HB.out | apply below_alloc | apply pw_below_drewN | apply below_drew1 | refine below_set ?_ GE102.out) | exact HB.out)))); (case aL => have := LMc33.out; omega); intro v130 w41 ho hb hg hat; rw [← Ny129.out] at ho; have n0_ := Aside0.mk (blk_grown (g := gb102) (o := .cells #[.string a1_0, .string a1_1, .bool false] 51 (0, 0)) (by (with_reducible repeat (first | refine blk_drewN ?_ _ | refine blk_drew ?_ | refine blk_alloc ?_ _)); exact BK102.out) hg (Kd.R_ne HO128.out BK102.out (by decide))); have n1_ := Aside0.mk (hb); have n2_ := Aside0.mk (ho); clear BK102; clear HB; clear HO128; have BK102 := n0_; have HB := n1_; have HO131 := n2_; clear n0_ n1_ n2_; clear ho hb hg hat)))
                                go_ret
                                exact ⟨_, by first | rfl | (simp [errW_none, errW_some] <;> rfl) | (simp only [← hji17]; first | rfl | (simp [errW_none, errW_some] <;> rfl)) | (simp [*, errW_none, errW_some] <;> rfl), by (with_reducible repeat (first | apply Kd.R_alloc | apply Kd.R_drewN | apply Kd.R_drew)); exact HO131.out, by repeat (first | (with_reducible first | exact HB.out | apply below_alloc | apply pw_below_drewN | apply below_drew1 | refine below_set ?_ GE102.out) | exact HB.out)⟩
                              · rw [if_neg c33] at H
                                exact absurd H (by simp)
                            · rw [if_neg c32] at H
                              exact absurd H (by simp)
                        · rw [if_neg c22] at H
                          exact absurd H (by simp)
                      · rw [if_neg c21] at H
                        exact absurd H (by simp)
                    · rw [if_neg c20] at H
                      exact absurd H (by simp)
                  · rw [if_neg c19] at H
                    exact absurd H (by simp)
                · rw [if_neg c18] at H
                  exact absurd H (by simp)
              · replace c16 := Bool.eq_false_iff.mpr c16
                subst c16
                have H1 : ((some (([] : List (S47)) : List (S47))).bind fun y132 => (if 0 ≤ x5_2 then (if x5_2 ≤ (l0.length : Int) then ((some (l0.take (x5_2 : Int).toNat : List (S47))).bind fun y135 => (if y132.length + y135.length < 4398046511104 then ((some (y132 ++ y135 : List (S47))).bind fun y139 => (if a1_2 = true then (if y139.length + y104.length < 4398046511104 then (some (y139 ++ y104)) else (none)) else (if y139.length < 4398046511104 then ((some (y139 ++ [(⟨a1_0, a1_1⟩ : S47)] : List (S47))).bind fun y145 => (if y145.length + y104.length < 4398046511104 then (some (y145 ++ y104)) else (none))) else (none)))) else (none))) else (none)) else (none))) = some r := by rw [if_neg (show ¬ (false = true) by decide)] at H; exact H
                clear H
                have H := H1
                clear H1
                obtain ⟨y132, hy132⟩ : ∃ y_ : List (S47), y_ = (([] : List (S47))) := ⟨_, rfl⟩
                replace H : (if 0 ≤ x5_2 then (if x5_2 ≤ (l0.length : Int) then ((some (l0.take (x5_2 : Int).toNat : List (S47))).bind fun y135 => (if y132.length + y135.length < 4398046511104 then ((some (y132 ++ y135 : List (S47))).bind fun y139 => (if a1_2 = true then (if y139.length + y104.length < 4398046511104 then (some (y139 ++ y104)) else (none)) else (if y139.length < 4398046511104 then ((some (y139 ++ [(⟨a1_0, a1_1⟩ : S47)] : List (S47))).bind fun y145 => (if y145.length + y104.length < 4398046511104 then (some (y145 ++ y104)) else (none))) else (none)))) else (none))) else (none)) else (none)) = some r := by first | (rw [hy132]; with_reducible exact H) | (have H2_ := (Option.bind_some _ _).symm.trans H; rw [hy132]; with_reducible exact H2_) | (have H2_ := (Option.bind_some _ _).symm.trans H; with_reducible exact H2_) | with_reducible exact H | (rw [hy132]; exact H) | exact H
                have Ny132 := Aside0.mk hy132
                clear hy132
                by_cases c42 : 0 ≤ x5_2
                · rw [if_pos c42] at H
                  have c42b0 := eq_true c42
                  have c42b1 : decide (0 ≤ x5_2) = true := decide_eq_true c42
                  clear c42
                  by_cases c43 : x5_2 ≤ (l0.length : Int)
                  · rw [if_pos c43] at H
                    have c43b0 := eq_true c43
                    have c43b1 : decide (x5_2 ≤ (l0.length : Int)) = true := decide_eq_true c43
                    clear c43
                    obtain ⟨y135, hy135⟩ : ∃ y_ : List (S47), y_ = (l0.take (x5_2 : Int).toNat) := ⟨_, rfl⟩
                    replace H : (if y132.length + y135.length < 4398046511104 then ((some (y132 ++ y135 : List (S47))).bind fun y139 => (if a1_2 = true then (if y139.length + y104.length < 4398046511104 then (some (y139 ++ y104)) else (none)) else (if y139.length < 4398046511104 then ((some (y139 ++ [(⟨a1_0, a1_1⟩ : S47)] : List (S47))).bind fun y145 => (if y145.length + y104.length < 4398046511104 then (some (y145 ++ y104)) else (none))) else (none)))) else (none)) = some r := by first | (rw [hy135]; with_reducible exact H) | (have H2_ := (Option.bind_some _ _).symm.trans H; rw [hy135]; with_reducible exact H2_) | (have H2_ := (Option.bind_some _ _).symm.trans H; with_reducible exact H2_) | with_reducible exact H | (rw [hy135]; exact H) | exact H
                    have Ny135 := Aside0.mk hy135
                    clear hy135
                    by_cases c44 : y132.length + y135.length < 4398046511104
                    · rw [if_pos c44] at H
                      have LMc44 := Aside0.mk c44
                      clear c44
                      obtain ⟨y139, hy139⟩ : ∃ y_ : List (S47), y_ = (y132 ++ y135) := ⟨_, rfl⟩
                      replace H : (if a1_2 = true then (if y139.length + y104.length < 4398046511104 then (some (y139 ++ y104)) else (none)) else (if y139.length < 4398046511104 then ((some (y139 ++ [(⟨a1_0, a1_1⟩ : S47)] : List (S47))).bind fun y145 => (if y145.length + y104.length < 4398046511104 then (some (y145 ++ y104)) else (none))) else (none))) = some r := by first | (rw [hy139]; with_reducible exact H) | (have H2_ := (Option.bind_some _ _).symm.trans H; rw [hy139]; with_reducible exact H2_) | (have H2_ := (Option.bind_some _ _).symm.trans H; with_reducible exact H2_) | with_reducible exact H | (rw [hy139]; exact H) | exact H
                      have Ny139 := Aside0.mk hy139
                      clear hy139
                      by_cases c45 : a1_2 = true
                      · subst c45
                        have H1 : (if y139.length + y104.length < 4398046511104 then (some (y139 ++ y104)) else (none)) = some r := by rw [if_pos rfl] at H; exact H
                        clear H
                        have H := H1
                        clear H1
                        by_cases c46 : y139.length + y104.length < 4398046511104
                        · rw [if_pos c46] at H
                          have LMc46 := Aside0.mk c46
                          clear c46
                          obtain ⟨y142, hy142⟩ : ∃ y_ : List (S47), y_ = (y139 ++ y104) := ⟨_, rfl⟩
                          replace H : (some y142) = some r := by first | (rw [hy142]; with_reducible exact H) | (have H2_ := (Option.bind_some _ _).symm.trans H; rw [hy142]; with_reducible exact H2_) | (have H2_ := (Option.bind_some _ _).symm.trans H; with_reducible exact H2_) | with_reducible exact H | (rw [hy142]; exact H) | exact H
                          have Ny142 := Aside0.mk hy142
                          clear hy142
                          obtain rfl := Option.some.inj H
                          go_wp2_with (first | ((with_reducible refine gate_dst (N := 45) rfl ?_); refine Kd.R_lit k47 _ 47 ?hg (N := 45) ?hd (xs := ([] : List (S47))) (inner := []) (ok := fun _ => True) (okp := fun _ => True) ?hr ?hp (fun _ hk => hk) trivial (Below.refl _ _) (Nat.le_refl _) (by simp) ?_; (case hd => rfl); (case hg => rfl); (case hr => first | (go_simp; done) | (go_simp; rfl)); (case hp => exact (Reps.none _ _)); intro v133 w47 ho48 hb hg_ hnew_; clear hg_ hnew_; (first | rw [← Ny132.out] at ho48 | (simp only [Int.reduceToNat] at ho48; rw [← Ny132.out] at ho48)); have n0_ := Aside0.mk (Kd.R_lower ho48 (below_size (by repeat (first | (with_reducible first | exact HB.out | apply below_alloc | apply pw_below_drewN | apply below_drew1 | refine below_set ?_ GE102.out) | exact HB.out)))); have n1_ := Aside0.mk (blk_below (g := gb102) (o := .cells #[.string a1_0, .string a1_1, .bool true] 51 (0, 0)) (by (with_reducible repeat (first | refine blk_drewN ?_ _ | refine blk_drew ?_ | refine blk_alloc ?_ _)); exact BK102.out) hb); have n2_ := Aside0.mk (below_step (by repeat (first | (with_reducible first | exact HB.out | apply below_alloc | apply pw_below_drewN | apply below_drew1 | refine below_set ?_ GE102.out) | exact HB.out)) hb); clear BK102; clear HB; have HO134 := n0_; have BK102 := n1_; have HB := n2_; clear n0_ n1_ n2_; clear hb ho48; have q49 : (x5_2 : Int) ≤ ((l0.length : Int) : Int) := of_decide_eq_true (by first | (with_reducible assumption) | assumption); obtain ⟨i049, hi049, _, hsz49, _⟩ := info_parts info47; have hroom49 : l0.length ≤ c0 := HC0.out; have hC49 : Kd.C k47 _ A0 l0.length l0 := HR0.out; have hcut49 := cut_to (P := Tryz.prog) 40 47 .i64 Tryz.underlying40 hi049 A0 l0.length c0 x5_2 (of_decide_eq_true (by first | (with_reducible assumption) | assumption)) q49 hroom49; have hr49 := Kd.C_take (m := (x5_2 : Int).toNat) hC49 (by omega); have hy49 : y135.length = (x5_2 : Int).toNat := (by rw [Ny135.out, List.length_take]; omega); rw [← Ny135.out] at hr49; rw [← hy49] at hcut49; have HR138 := Aside0.mk hr49; have HC138 := Aside0.mk (show y135.length ≤ c0 from by omega); clear hr49 hC49 hroom49 hi049 hsz49; have KY49 := Aside0.mk hy49; clear hy49; replace q49 := eq_true q49) | ((with_reducible refine gate_builtin (b := .append) (xs := #[.tmp 45, .tmp 48]) rfl ?_); at_builtin; refine Kd.R_append_rows k47 (w0 := w) w.heap.size rfl (.tmp 45) (.tmp 48) 40 47 (.agg #[(.string ⟨#[]⟩), (.string ⟨#[]⟩)]) 32 rfl Tryz.underlying40 info47 rfl (by decide) (by omega) v133 y132 y135 _ _ _ (fun _ => True) (fun _ => False) rfl rfl ?aO ?aR (fun _ _ h => h) (fun _ h => h.elim) ?aF ?aB ?aS ?aL ?_; (case aR => repeat (first | exact (Kd.C_below HR138.out HB.out) | (with_reducible refine Kd.C_alloc ?_ _) | (with_reducible refine Kd.C_drewN ?_ _) | (with_reducible refine Kd.C_drew ?_))); (case aB => exact (by repeat (first | (with_reducible first | exact HB.out | apply below_alloc | apply pw_below_drewN | apply below_drew1 | refine below_set ?_ GE102.out) | exact HB.out))); (case aF => exact (fun _ _ => trivial)); (case aO => exact (by (with_reducible repeat (first | apply Kd.R_alloc | apply Kd.R_drewN | apply Kd.R_drew)); exact HO134.out)); (case aS => exact (below_size (by repeat (first | (with_reducible first | exact HB.out | apply below_alloc | apply pw_below_drewN | apply below_drew1 | refine below_set ?_ GE102.out) | exact HB.out)))); (case aL => have := LMc44.out; omega); intro v140 w50 ho hb hg hat; rw [← Ny139.out] at ho; have n0_ := Aside0.mk (blk_grown (g := gb102) (o := .cells #[.string a1_0, .string a1_1, .bool true] 51 (0, 0)) (by (with_reducible repeat (first | refine blk_drewN ?_ _ | refine blk_drew ?_ | refine blk_alloc ?_ _)); exact BK102.out) hg (Kd.R_ne HO134.out BK102.out (by decide))); have n1_ := Aside0.mk (hb); have n2_ := Aside0.mk (ho); clear BK102; clear HB; clear HO134; have BK102 := n0_; have HB := n1_; have HO141 := n2_; clear n0_ n1_ n2_; clear ho hb hg hat; have hcz51_0 : w50.cell? ⟨gb102, 0, none⟩ = some (.string a1_0) := (blk_cell BK102.out 0).trans rfl; have hcz51_1 : w50.cell? ⟨gb102, 1, none⟩ = some (.string a1_1) := (blk_cell BK102.out 1).trans rfl; have hcz51_2 : w50.cell? ⟨gb102, 2, none⟩ = some (.bool true) := (blk_cell BK102.out 2).trans rfl; have hfz51_0 := blk_frozen BK102.out 0; have hfz51_1 := blk_frozen BK102.out 1; have hfz51_2 := blk_frozen BK102.out 2) | ((with_reducible refine gate_builtin (b := .append) (xs := #[.tmp 61, .tmp 62]) rfl ?_); at_builtin; refine Kd.R_append_rows k47 (w0 := w) w.heap.size rfl (.tmp 61) (.tmp 62) 40 47 (.agg #[(.string ⟨#[]⟩), (.string ⟨#[]⟩)]) 32 rfl Tryz.underlying40 info47 rfl (by decide) (by omega) v140 y139 y104 _ _ _ (fun _ => True) (fun _ => False) rfl rfl ?aO ?aR (fun _ _ h => h) (fun _ h => h.elim) ?aF ?aB ?aS ?aL ?_; (case aR => repeat (first | exact (Kd.C_below HR107.out HB.out) | (with_reducible refine Kd.C_alloc ?_ _) | (with_reducible refine Kd.C_drewN ?_ _) | (with_reducible refine Kd.C_drew ?_))); (case aB => exact (by repeat (first | (with_reducible first | exact HB.out | apply below_alloc | apply pw_below_drewN | apply below_drew1 | refine below_set ?_ GE102.out) | exact HB.out))); (case aF => exact (fun _ _ => trivial)); (case aO => exact (by (with_reducible repeat (first | apply Kd.R_alloc | apply Kd.R_drewN | apply Kd.R_drew)); exact HO141.out)); (case aS => exact (below_size (by repeat (first | (with_reducible first | exact HB.out | apply below_alloc | apply pw_below_drewN | apply below_drew1 | refine below_set ?_ GE102.out) | exact HB.out)))); (case aL => have := LMc46.out; omega); intro v143 w52 ho hb hg hat; rw [← Ny142.out] at ho; have n0_ := Aside0.mk (blk_grown (g := gb102) (o := .cells #[.string a1_0, .string a1_1, .bool true] 51 (0, 0)) (by (with_reducible repeat (first | refine blk_drewN ?_ _ | refine blk_drew ?_ | refine blk_alloc ?_ _)); exact BK102.out) hg (Kd.R_ne HO141.out BK102.out (by decide))); have n1_ := Aside0.mk (hb); have n2_ := Aside0.mk (ho); clear BK102; clear HB; clear HO141; have BK102 := n0_; have HB := n1_; have HO144 := n2_; clear n0_ n1_ n2_; clear ho hb hg hat))
                          repeat (go_quiet (first | ((with_reducible refine gate_dst (N := 45) rfl ?_); refine Kd.R_lit k47 _ 47 ?hg (N := 45) ?hd (xs := ([] : List (S47))) (inner := []) (ok := fun _ => True) (okp := fun _ => True) ?hr ?hp (fun _ hk => hk) trivial (Below.refl _ _) (Nat.le_refl _) (by simp) ?_; (case hd => rfl); (case hg => rfl); (case hr => first | (go_simp; done) | (go_simp; rfl)); (case hp => exact (Reps.none _ _)); intro v133 w47 ho48 hb hg_ hnew_; clear hg_ hnew_; (first | rw [← Ny132.out] at ho48 | (simp only [Int.reduceToNat] at ho48; rw [← Ny132.out] at ho48)); have n0_ := Aside0.mk (Kd.R_lower ho48 (below_size (by repeat (first | (with_reducible first | exact HB.out | apply below_alloc | apply pw_below_drewN | apply below_drew1 | refine below_set ?_ GE102.out) | exact HB.out)))); have n1_ := Aside0.mk (blk_below (g := gb102) (o := .cells #[.string a1_0, .string a1_1, .bool true] 51 (0, 0)) (by (with_reducible repeat (first | refine blk_drewN ?_ _ | refine blk_drew ?_ | refine blk_alloc ?_ _)); exact BK102.out) hb); have n2_ := Aside0.mk (below_step (by repeat (first | (with_reducible first | exact HB.out | apply below_alloc | apply pw_below_drewN | apply below_drew1 | refine below_set ?_ GE102.out) | exact HB.out)) hb); clear BK102; clear HB; have HO134 := n0_; have BK102 := n1_; have HB := n2_; clear n0_ n1_ n2_; clear hb ho48; have q49 : (x5_2 : Int) ≤ ((l0.length : Int) : Int) := of_decide_eq_true (by first | (with_reducible assumption) | assumption); obtain ⟨i049, hi049, _, hsz49, _⟩ := info_parts info47; have hroom49 : l0.length ≤ c0 := HC0.out; have hC49 : Kd.C k47 _ A0 l0.length l0 := HR0.out; have hcut49 := cut_to (P := Tryz.prog) 40 47 .i64 Tryz.underlying40 hi049 A0 l0.length c0 x5_2 (of_decide_eq_true (by first | (with_reducible assumption) | assumption)) q49 hroom49; have hr49 := Kd.C_take (m := (x5_2 : Int).toNat) hC49 (by omega); have hy49 : y135.length = (x5_2 : Int).toNat := (by rw [Ny135.out, List.length_take]; omega); rw [← Ny135.out] at hr49; rw [← hy49] at hcut49; have HR138 := Aside0.mk hr49; have HC138 := Aside0.mk (show y135.length ≤ c0 from by omega); clear hr49 hC49 hroom49 hi049 hsz49; have KY49 := Aside0.mk hy49; clear hy49; replace q49 := eq_true q49) | ((with_reducible refine gate_builtin (b := .append) (xs := #[.tmp 45, .tmp 48]) rfl ?_); at_builtin; refine Kd.R_append_rows k47 (w0 := w) w.heap.size rfl (.tmp 45) (.tmp 48) 40 47 (.agg #[(.string ⟨#[]⟩), (.string ⟨#[]⟩)]) 32 rfl Tryz.underlying40 info47 rfl (by decide) (by omega) v133 y132 y135 _ _ _ (fun _ => True) (fun _ => False) rfl rfl ?aO ?aR (fun _ _ h => h) (fun _ h => h.elim) ?aF ?aB ?aS ?aL ?_; (case aR => repeat (first | exact (Kd.C_below HR138.out HB.out) | (with_reducible refine Kd.C_alloc ?_ _) | (with_reducible refine Kd.C_drewN ?_ _) | (with_reducible refine Kd.C_drew ?_))); (case aB => exact (by repeat (first | (with_reducible first | exact HB.out | apply below_alloc | apply pw_below_drewN | apply below_drew1 | refine below_set ?_ GE102.out) | exact HB.out))); (case aF => exact (fun _ _ => trivial)); (case aO => exact (by (with_reducible repeat (first | apply Kd.R_alloc | apply Kd.R_drewN | apply Kd.R_drew)); exact HO134.out)); (case aS => exact (below_size (by repeat (first | (with_reducible first | exact HB.out | apply below_alloc | apply pw_below_drewN | apply below_drew1 | refine below_set ?_ GE102.out) | exact HB.out)))); (case aL => have := LMc44.out; omega); intro v140 w50 ho hb hg hat; rw [← Ny139.out] at ho; have n0_ := Aside0.mk (blk_grown (g := gb102) (o := .cells #[.string a1_0, .string a1_1, .bool true] 51 (0, 0)) (by (with_reducible repeat (first | refine blk_drewN ?_ _ | refine blk_drew ?_ | refine blk_alloc ?_ _)); exact BK102.out) hg (Kd.R_ne HO134.out BK102.out (by decide))); have n1_ := Aside0.mk (hb); have n2_ := Aside0.mk (ho); clear BK102; clear HB; clear HO134; have BK102 := n0_; have HB := n1_; have HO141 := n2_; clear n0_ n1_ n2_; clear ho hb hg hat; have hcz51_0 : w50.cell? ⟨gb102, 0, none⟩ = some (.string a1_0) := (blk_cell BK102.out 0).trans rfl; have hcz51_1 : w50.cell? ⟨gb102, 1, none⟩ = some (.string a1_1) := (blk_cell BK102.out 1).trans rfl; have hcz51_2 : w50.cell? ⟨gb102, 2, none⟩ = some (.bool true) := (blk_cell BK102.out 2).trans rfl; have hfz51_0 := blk_frozen BK102.out 0; have hfz51_1 := blk_frozen BK102.out 1; have hfz51_2 := blk_frozen BK102.out 2) | ((with_reducible refine gate_builtin (b := .append) (xs := #[.tmp 61, .tmp 62]) rfl ?_); at_builtin; refine Kd.R_append_rows k47 (w0 := w) w.heap.size rfl (.tmp 61) (.tmp 62) 40 47 (.agg #[(.string ⟨#[]⟩), (.string ⟨#[]⟩)]) 32 rfl Tryz.underlying40 info47 rfl (by decide) (by omega) v140 y139 y104 _ _ _ (fun _ => True) (fun _ => False) rfl rfl ?aO ?aR (fun _ _ h => h) (fun _ h => h.elim) ?aF ?aB ?aS ?aL ?_; (case aR => repeat (first | exact (Kd.C_below HR107.out HB.out) | (with_reducible refine Kd.C_alloc ?_ _) | (with_reducible refine Kd.C_drewN ?_ _) | (with_reducible refine Kd.C_drew ?_))); (case aB => exact (by repeat (first | (with_reducible first | exact HB.out | apply below_alloc | apply pw_below_drewN | apply below_drew1 | refine below_set ?_ GE102.out) | exact HB.out))); (case aF => exact (fun _ _ => trivial)); (case aO => exact (by (with_reducible repeat (first | apply Kd.R_alloc | apply Kd.R_drewN | apply Kd.R_drew)); exact HO141.out)); (case aS => exact (below_size (by repeat (first | (with_reducible first | exact HB.out | apply below_alloc | apply pw_below_drewN | apply below_drew1 | refine below_set ?_ GE102.out) | exact HB.out)))); (case aL => have := LMc46.out; omega); intro v143 w52 ho hb hg hat; rw [← Ny142.out] at ho; have n0_ := Aside0.mk (blk_grown (g := gb102) (o := .cells #[.string a1_0, .string a1_1, .bool true] 51 (0, 0)) (by (with_reducible repeat (first | refine blk_drewN ?_ _ | refine blk_drew ?_ | refine blk_alloc ?_ _)); exact BK102.out) hg (Kd.R_ne HO141.out BK102.out (by decide))); have n1_ := Aside0.mk (hb); have n2_ := Aside0.mk (ho); clear BK102; clear HB; clear HO141; have BK102 := n0_; have HB := n1_; have HO144 := n2_; clear n0_ n1_ n2_; clear ho hb hg hat)); try go_wp2_with (first | ((with_reducible refine gate_dst (N := 45) rfl ?_); refine Kd.R_lit k47 _ 47 ?hg (N := 45) ?hd (xs := ([] : List (S47))) (inner := []) (ok := fun _ => True) (okp := fun _ => True) ?hr ?hp (fun _ hk => hk) trivial (Below.refl _ _) (Nat.le_refl _) (by simp) ?_; (case hd => rfl); (case hg => rfl); (case hr => first | (go_simp; done) | (go_simp; rfl)); (case hp => exact (Reps.none _ _)); intro v133 w47 ho48 hb hg_ hnew_; clear hg_ hnew_; (first | rw [← Ny132.out] at ho48 | (simp only [Int.reduceToNat] at ho48; rw [← Ny132.out] at ho48)); have n0_ := Aside0.mk (Kd.R_lower ho48 (below_size (by repeat (first | (with_reducible first | exact HB.out | apply below_alloc | apply pw_below_drewN | apply below_drew1 | refine below_set ?_ GE102.out) | exact HB.out)))); have n1_ := Aside0.mk (blk_below (g := gb102) (o := .cells #[.string a1_0, .string a1_1, .bool true] 51 (0, 0)) (by (with_reducible repeat (first | refine blk_drewN ?_ _ | refine blk_drew ?_ | refine blk_alloc ?_ _)); exact BK102.out) hb); have n2_ := Aside0.mk (below_step (by repeat (first | (with_reducible first | exact HB.out | apply below_alloc | apply pw_below_drewN | apply below_drew1 | refine below_set ?_ GE102.out) | exact HB.out)) hb); clear BK102; clear HB; have HO134 := n0_; have BK102 := n1_; have HB := n2_; clear n0_ n1_ n2_; clear hb ho48; have q49 : (x5_2 : Int) ≤ ((l0.length : Int) : Int) := of_decide_eq_true (by first | (with_reducible assumption) | assumption); obtain ⟨i049, hi049, _, hsz49, _⟩ := info_parts info47; have hroom49 : l0.length ≤ c0 := HC0.out; have hC49 : Kd.C k47 _ A0 l0.length l0 := HR0.out; have hcut49 := cut_to (P := Tryz.prog) 40 47 .i64 Tryz.underlying40 hi049 A0 l0.length c0 x5_2 (of_decide_eq_true (by first | (with_reducible assumption) | assumption)) q49 hroom49; have hr49 := Kd.C_take (m := (x5_2 : Int).toNat) hC49 (by omega); have hy49 : y135.length = (x5_2 : Int).toNat := (by rw [Ny135.out, List.length_take]; omega); rw [← Ny135.out] at hr49; rw [← hy49] at hcut49; have HR138 := Aside0.mk hr49; have HC138 := Aside0.mk (show y135.length ≤ c0 from by omega); clear hr49 hC49 hroom49 hi049 hsz49; have KY49 := Aside0.mk hy49; clear hy49; replace q49 := eq_true q49) | ((with_reducible refine gate_builtin (b := .append) (xs := #[.tmp 45, .tmp 48]) rfl ?_); at_builtin; refine Kd.R_append_rows k47 (w0 := w) w.heap.size rfl (.tmp 45) (.tmp 48) 40 47 (.agg #[(.string ⟨#[]⟩), (.string ⟨#[]⟩)]) 32 rfl Tryz.underlying40 info47 rfl (by decide) (by omega) v133 y132 y135 _ _ _ (fun _ => True) (fun _ => False) rfl rfl ?aO ?aR (fun _ _ h => h) (fun _ h => h.elim) ?aF ?aB ?aS ?aL ?_; (case aR => repeat (first | exact (Kd.C_below HR138.out HB.out) | (with_reducible refine Kd.C_alloc ?_ _) | (with_reducible refine Kd.C_drewN ?_ _) | (with_reducible refine Kd.C_drew ?_))); (case aB => exact (by repeat (first | (with_reducible first | exact HB.out | apply below_alloc | apply pw_below_drewN | apply below_drew1 | refine below_set ?_ GE102.out) | exact HB.out))); (case aF => exact (fun _ _ => trivial)); (case aO => exact (by (with_reducible repeat (first | apply Kd.R_alloc | apply Kd.R_drewN | apply Kd.R_drew)); exact HO134.out)); (case aS => exact (below_size (by repeat (first | (with_reducible first | exact HB.out | apply below_alloc | apply pw_below_drewN | apply below_drew1 | refine below_set ?_ GE102.out) | exact HB.out)))); (case aL => have := LMc44.out; omega); intro v140 w50 ho hb hg hat; rw [← Ny139.out] at ho; have n0_ := Aside0.mk (blk_grown (g := gb102) (o := .cells #[.string a1_0, .string a1_1, .bool true] 51 (0, 0)) (by (with_reducible repeat (first | refine blk_drewN ?_ _ | refine blk_drew ?_ | refine blk_alloc ?_ _)); exact BK102.out) hg (Kd.R_ne HO134.out BK102.out (by decide))); have n1_ := Aside0.mk (hb); have n2_ := Aside0.mk (ho); clear BK102; clear HB; clear HO134; have BK102 := n0_; have HB := n1_; have HO141 := n2_; clear n0_ n1_ n2_; clear ho hb hg hat; have hcz51_0 : w50.cell? ⟨gb102, 0, none⟩ = some (.string a1_0) := (blk_cell BK102.out 0).trans rfl; have hcz51_1 : w50.cell? ⟨gb102, 1, none⟩ = some (.string a1_1) := (blk_cell BK102.out 1).trans rfl; have hcz51_2 : w50.cell? ⟨gb102, 2, none⟩ = some (.bool true) := (blk_cell BK102.out 2).trans rfl; have hfz51_0 := blk_frozen BK102.out 0; have hfz51_1 := blk_frozen BK102.out 1; have hfz51_2 := blk_frozen BK102.out 2) | ((with_reducible refine gate_builtin (b := .append) (xs := #[.tmp 61, .tmp 62]) rfl ?_); at_builtin; refine Kd.R_append_rows k47 (w0 := w) w.heap.size rfl (.tmp 61) (.tmp 62) 40 47 (.agg #[(.string ⟨#[]⟩), (.string ⟨#[]⟩)]) 32 rfl Tryz.underlying40 info47 rfl (by decide) (by omega) v140 y139 y104 _ _ _ (fun _ => True) (fun _ => False) rfl rfl ?aO ?aR (fun _ _ h => h) (fun _ h => h.elim) ?aF ?aB ?aS ?aL ?_; (case aR => repeat (first | exact (Kd.C_below HR107.out HB.out) | (with_reducible refine Kd.C_alloc ?_ _) | (with_reducible refine Kd.C_drewN ?_ _) | (with_reducible refine Kd.C_drew ?_))); (case aB => exact (by repeat (first | (with_reducible first | exact HB.out | apply below_alloc | apply pw_below_drewN | apply below_drew1 | refine below_set ?_ GE102.out) | exact HB.out))); (case aF => exact (fun _ _ => trivial)); (case aO => exact (by (with_reducible repeat (first | apply Kd.R_alloc | apply Kd.R_drewN | apply Kd.R_drew)); exact HO141.out)); (case aS => exact (below_size (by repeat (first | (with_reducible first | exact HB.out | apply below_alloc | apply pw_below_drewN | apply below_drew1 | refine below_set ?_ GE102.out) | exact HB.out)))); (case aL => have := LMc46.out; omega); intro v143 w52 ho hb hg hat; rw [← Ny142.out] at ho; have n0_ := Aside0.mk (blk_grown (g := gb102) (o := .cells #[.string a1_0, .string a1_1, .bool true] 51 (0, 0)) (by (with_reducible repeat (first | refine blk_drewN ?_ _ | refine blk_drew ?_ | refine blk_alloc ?_ _)); exact BK102.out) hg (Kd.R_ne HO141.out BK102.out (by decide))); have n1_ := Aside0.mk (hb); have n2_ := Aside0.mk (ho); clear BK102; clear HB; clear HO141; have BK102 := n0_; have HB := n1_; have HO144 := n2_; clear n0_ n1_ n2_; clear ho hb hg hat)))
                          go_ret
                          exact ⟨_, by first | rfl | (simp [errW_none, errW_some] <;> rfl) | (simp [*, errW_none, errW_some] <;> rfl), by (with_reducible repeat (first | apply Kd.R_alloc | apply Kd.R_drewN | apply Kd.R_drew)); exact HO144.out, by repeat (first | (with_reducible first | exact HB.out | apply below_alloc | apply pw_below_drewN | apply below_drew1 | refine below_set ?_ GE102.out) | exact HB.out)⟩
                        · rw [if_neg c46] at H
                          exact absurd H (by simp)
                      · replace c45 := Bool.eq_false_iff.mpr c45
                        subst c45
                        have H1 : (if y139.length < 4398046511104 then ((some (y139 ++ [(⟨a1_0, a1_1⟩ : S47)] : List (S47))).bind fun y145 => (if y145.length + y104.length < 4398046511104 then (some (y145 ++ y104)) else (none))) else (none)) = some r := by rw [if_neg (show ¬ (false = true) by decide)] at H; exact H
                        clear H
                        have H := H1
                        clear H1
                        by_cases c53 : y139.length < 4398046511104
                        · rw [if_pos c53] at H
                          have LMc53 := Aside0.mk c53
                          clear c53
                          obtain ⟨y145, hy145⟩ : ∃ y_ : List (S47), y_ = (y139 ++ [(⟨a1_0, a1_1⟩ : S47)]) := ⟨_, rfl⟩
                          replace H : (if y145.length + y104.length < 4398046511104 then (some (y145 ++ y104)) else (none)) = some r := by first | (rw [hy145]; with_reducible exact H) | (have H2_ := (Option.bind_some _ _).symm.trans H; rw [hy145]; with_reducible exact H2_) | (have H2_ := (Option.bind_some _ _).symm.trans H; with_reducible exact H2_) | with_reducible exact H | (rw [hy145]; exact H) | exact H
                          have Ny145 := Aside0.mk hy145
                          clear hy145
                          by_cases c54 : y145.length + y104.length < 4398046511104
                          · rw [if_pos c54] at H
                            have LMc54 := Aside0.mk c54
                            clear c54
                            obtain ⟨y148, hy148⟩ : ∃ y_ : List (S47), y_ = (y145 ++ y104) := ⟨_, rfl⟩
                            replace H : (some y148) = some r := by first | (rw [hy148]; with_reducible exact H) | (have H2_ := (Option.bind_some _ _).symm.trans H; rw [hy148]; with_reducible exact H2_) | (have H2_ := (Option.bind_some _ _).symm.trans H; with_reducible exact H2_) | with_reducible exact H | (rw [hy148]; exact H) | exact H
                            have Ny148 := Aside0.mk hy148
                            clear hy148
                            obtain rfl := Option.some.inj H
                            go_wp2_with (first | ((with_reducible refine gate_dst (N := 45) rfl ?_); refine Kd.R_lit k47 _ 47 ?hg (N := 45) ?hd (xs := ([] : List (S47))) (inner := []) (ok := fun _ => True) (okp := fun _ => True) ?hr ?hp (fun _ hk => hk) trivial (Below.refl _ _) (Nat.le_refl _) (by simp) ?_; (case hd => rfl); (case hg => rfl); (case hr => first | (go_simp; done) | (go_simp; rfl)); (case hp => exact (Reps.none _ _)); intro v133 w55 ho56 hb hg_ hnew_; clear hg_ hnew_; (first | rw [← Ny132.out] at ho56 | (simp only [Int.reduceToNat] at ho56; rw [← Ny132.out] at ho56)); have n0_ := Aside0.mk (Kd.R_lower ho56 (below_size (by repeat (first | (with_reducible first | exact HB.out | apply below_alloc | apply pw_below_drewN | apply below_drew1 | refine below_set ?_ GE102.out) | exact HB.out)))); have n1_ := Aside0.mk (blk_below (g := gb102) (o := .cells #[.string a1_0, .string a1_1, .bool false] 51 (0, 0)) (by (with_reducible repeat (first | refine blk_drewN ?_ _ | refine blk_drew ?_ | refine blk_alloc ?_ _)); exact BK102.out) hb); have n2_ := Aside0.mk (below_step (by repeat (first | (with_reducible first | exact HB.out | apply below_alloc | apply pw_below_drewN | apply below_drew1 | refine below_set ?_ GE102.out) | exact HB.out)) hb); clear BK102; clear HB; have HO134 := n0_; have BK102 := n1_; have HB := n2_; clear n0_ n1_ n2_; clear hb ho56; have q57 : (x5_2 : Int) ≤ ((l0.length : Int) : Int) := of_decide_eq_true (by first | (with_reducible assumption) | assumption); obtain ⟨i057, hi057, _, hsz57, _⟩ := info_parts info47; have hroom57 : l0.length ≤ c0 := HC0.out; have hC57 : Kd.C k47 _ A0 l0.length l0 := HR0.out; have hcut57 := cut_to (P := Tryz.prog) 40 47 .i64 Tryz.underlying40 hi057 A0 l0.length c0 x5_2 (of_decide_eq_true (by first | (with_reducible assumption) | assumption)) q57 hroom57; have hr57 := Kd.C_take (m := (x5_2 : Int).toNat) hC57 (by omega); have hy57 : y135.length = (x5_2 : Int).toNat := (by rw [Ny135.out, List.length_take]; omega); rw [← Ny135.out] at hr57; rw [← hy57] at hcut57; have HR138 := Aside0.mk hr57; have HC138 := Aside0.mk (show y135.length ≤ c0 from by omega); clear hr57 hC57 hroom57 hi057 hsz57; have KY57 := Aside0.mk hy57; clear hy57; replace q57 := eq_true q57) | ((with_reducible refine gate_builtin (b := .append) (xs := #[.tmp 45, .tmp 48]) rfl ?_); at_builtin; refine Kd.R_append_rows k47 (w0 := w) w.heap.size rfl (.tmp 45) (.tmp 48) 40 47 (.agg #[(.string ⟨#[]⟩), (.string ⟨#[]⟩)]) 32 rfl Tryz.underlying40 info47 rfl (by decide) (by omega) v133 y132 y135 _ _ _ (fun _ => True) (fun _ => False) rfl rfl ?aO ?aR (fun _ _ h => h) (fun _ h => h.elim) ?aF ?aB ?aS ?aL ?_; (case aR => repeat (first | exact (Kd.C_below HR138.out HB.out) | (with_reducible refine Kd.C_alloc ?_ _) | (with_reducible refine Kd.C_drewN ?_ _) | (with_reducible refine Kd.C_drew ?_))); (case aB => exact (by repeat (first | (with_reducible first | exact HB.out | apply below_alloc | apply pw_below_drewN | apply below_drew1 | refine below_set ?_ GE102.out) | exact HB.out))); (case aF => exact (fun _ _ => trivial)); (case aO => exact (by (with_reducible repeat (first | apply Kd.R_alloc | apply Kd.R_drewN | apply Kd.R_drew)); exact HO134.out)); (case aS => exact (below_size (by repeat (first | (with_reducible first | exact HB.out | apply below_alloc | apply pw_below_drewN | apply below_drew1 | refine below_set ?_ GE102.out) | exact HB.out)))); (case aL => have := LMc44.out; omega); intro v140 w58 ho hb hg hat; rw [← Ny139.out] at ho; have n0_ := Aside0.mk (blk_grown (g := gb102) (o := .cells #[.string a1_0, .string a1_1, .bool false] 51 (0, 0)) (by (with_reducible repeat (first | refine blk_drewN ?_ _ | refine blk_drew ?_ | refine blk_alloc ?_ _)); exact BK102.out) hg (Kd.R_ne HO134.out BK102.out (by decide))); have n1_ := Aside0.mk (hb); have n2_ := Aside0.mk (ho); clear BK102; clear HB; clear HO134; have BK102 := n0_; have HB := n1_; have HO141 := n2_; clear n0_ n1_ n2_; clear ho hb hg hat; have hcz59_0 : w58.cell? ⟨gb102, 0, none⟩ = some (.string a1_0) := (blk_cell BK102.out 0).trans rfl; have hcz59_1 : w58.cell? ⟨gb102, 1, none⟩ = some (.string a1_1) := (blk_cell BK102.out 1).trans rfl; have hcz59_2 : w58.cell? ⟨gb102, 2, none⟩ = some (.bool false) := (blk_cell BK102.out 2).trans rfl; have hfz59_0 := blk_frozen BK102.out 0; have hfz59_1 := blk_frozen BK102.out 1; have hfz59_2 := blk_frozen BK102.out 2) | ((with_reducible refine gate_builtin (b := .append) (xs := #[.tmp 53, .tmp 59]) rfl ?_); at_builtin; refine Kd.R_append k47 (w0 := w) w.heap.size rfl (.tmp 53) (.tmp 59) 40 47 (.agg #[(.string ⟨#[]⟩), (.string ⟨#[]⟩)]) 32 rfl Tryz.underlying40 info47 rfl (by decide) (by omega) v140 y139 (⟨a1_0, a1_1⟩ : S47) [.string a1_0, .string a1_1] (fun _ => True) (fun _ => False) rfl rfl ?aP (fun _ hk => hk.elim) ?aF ?aO ?aB ?aS ?aL ?_; (case aP => exact k47_mkM _ _ _ (⟨a1_0, a1_1⟩ : S47)); (case aB => exact (by repeat (first | (with_reducible first | exact HB.out | apply below_alloc | apply pw_below_drewN | apply below_drew1 | refine below_set ?_ GE102.out) | exact HB.out))); (case aF => exact (fun _ _ => trivial)); (case aO => exact (by (with_reducible repeat (first | apply Kd.R_alloc | apply Kd.R_drewN | apply Kd.R_drew)); exact HO141.out)); (case aS => exact (below_size (by repeat (first | (with_reducible first | exact HB.out | apply below_alloc | apply pw_below_drewN | apply below_drew1 | refine below_set ?_ GE102.out) | exact HB.out)))); (case aL => have := LMc53.out; omega); intro v146 w60 ho hb hg hat; rw [← Ny145.out] at ho; have n0_ := Aside0.mk (blk_grown (g := gb102) (o := .cells #[.string a1_0, .string a1_1, .bool false] 51 (0, 0)) (by (with_reducible repeat (first | refine blk_drewN ?_ _ | refine blk_drew ?_ | refine blk_alloc ?_ _)); exact BK102.out) hg (Kd.R_ne HO141.out BK102.out (by decide))); have n1_ := Aside0.mk (hb); have n2_ := Aside0.mk (ho); clear BK102; clear HB; clear HO141; have BK102 := n0_; have HB := n1_; have HO147 := n2_; clear n0_ n1_ n2_; clear ho hb hg hat) | ((with_reducible refine gate_builtin (b := .append) (xs := #[.tmp 61, .tmp 62]) rfl ?_); at_builtin; refine Kd.R_append_rows k47 (w0 := w) w.heap.size rfl (.tmp 61) (.tmp 62) 40 47 (.agg #[(.string ⟨#[]⟩), (.string ⟨#[]⟩)]) 32 rfl Tryz.underlying40 info47 rfl (by decide) (by omega) v146 y145 y104 _ _ _ (fun _ => True) (fun _ => False) rfl rfl ?aO ?aR (fun _ _ h => h) (fun _ h => h.elim) ?aF ?aB ?aS ?aL ?_; (case aR => repeat (first | exact (Kd.C_below HR107.out HB.out) | (with_reducible refine Kd.C_alloc ?_ _) | (with_reducible refine Kd.C_drewN ?_ _) | (with_reducible refine Kd.C_drew ?_))); (case aB => exact (by repeat (first | (with_reducible first | exact HB.out | apply below_alloc | apply pw_below_drewN | apply below_drew1 | refine below_set ?_ GE102.out) | exact HB.out))); (case aF => exact (fun _ _ => trivial)); (case aO => exact (by (with_reducible repeat (first | apply Kd.R_alloc | apply Kd.R_drewN | apply Kd.R_drew)); exact HO147.out)); (case aS => exact (below_size (by repeat (first | (with_reducible first | exact HB.out | apply below_alloc | apply pw_below_drewN | apply below_drew1 | refine below_set ?_ GE102.out) | exact HB.out)))); (case aL => have := LMc54.out; omega); intro v149 w61 ho hb hg hat; rw [← Ny148.out] at ho; have n0_ := Aside0.mk (blk_grown (g := gb102) (o := .cells #[.string a1_0, .string a1_1, .bool false] 51 (0, 0)) (by (with_reducible repeat (first | refine blk_drewN ?_ _ | refine blk_drew ?_ | refine blk_alloc ?_ _)); exact BK102.out) hg (Kd.R_ne HO147.out BK102.out (by decide))); have n1_ := Aside0.mk (hb); have n2_ := Aside0.mk (ho); clear BK102; clear HB; clear HO147; have BK102 := n0_; have HB := n1_; have HO150 := n2_; clear n0_ n1_ n2_; clear ho hb hg hat))
                            repeat (go_quiet (first | ((with_reducible refine gate_dst (N := 45) rfl ?_); refine Kd.R_lit k47 _ 47 ?hg (N := 45) ?hd (xs := ([] : List (S47))) (inner := []) (ok := fun _ => True) (okp := fun _ => True) ?hr ?hp (fun _ hk => hk) trivial (Below.refl _ _) (Nat.le_refl _) (by simp) ?_; (case hd => rfl); (case hg => rfl); (case hr => first | (go_simp; done) | (go_simp; rfl)); (case hp => exact (Reps.none _ _)); intro v133 w55 ho56 hb hg_ hnew_; clear hg_ hnew_; (first | rw [← Ny132.out] at ho56 | (simp only [Int.reduceToNat] at ho56; rw [← Ny132.out] at ho56)); have n0_ := Aside0.mk (Kd.R_lower ho56 (below_size (by repeat (first | (with_reducible first | exact HB.out | apply below_alloc | apply pw_below_drewN | apply below_drew1 | refine below_set ?_ GE102.out) | exact HB.out)))); have n1_ := Aside0.mk (blk_below (g := gb102) (o := .cells #[.string a1_0, .string a1_1, .bool false] 51 (0, 0)) (by (with_reducible repeat (first | refine blk_drewN ?_ _ | refine blk_drew ?_ | refine blk_alloc ?_ _)); exact BK102.out) hb); have n2_ := Aside0.mk (below_step (by repeat (first | (with_reducible first | exact HB.out | apply below_alloc | apply pw_below_drewN | apply below_drew1 | refine below_set ?_ GE102.out) | exact HB.out)) hb); clear BK102; clear HB; have HO134 := n0_; have BK102 := n1_; have HB := n2_; clear n0_ n1_ n2_; clear hb ho56; have q57 : (x5_2 : Int) ≤ ((l0.length : Int) : Int) := of_decide_eq_true (by first | (with_reducible assumption) | assumption); obtain ⟨i057, hi057, _, hsz57, _⟩ := info_parts info47; have hroom57 : l0.length ≤ c0 := HC0.out; have hC57 : Kd.C k47 _ A0 l0.length l0 := HR0.out; have hcut57 := cut_to (P := Tryz.prog) 40 47 .i64 Tryz.underlying40 hi057 A0 l0.length c0 x5_2 (of_decide_eq_true (by first | (with_reducible assumption) | assumption)) q57 hroom57; have hr57 := Kd.C_take (m := (x5_2 : Int).toNat) hC57 (by omega); have hy57 : y135.length = (x5_2 : Int).toNat := (by rw [Ny135.out, List.length_take]; omega); rw [← Ny135.out] at hr57; rw [← hy57] at hcut57; have HR138 := Aside0.mk hr57; have HC138 := Aside0.mk (show y135.length ≤ c0 from by omega); clear hr57 hC57 hroom57 hi057 hsz57; have KY57 := Aside0.mk hy57; clear hy57; replace q57 := eq_true q57) | ((with_reducible refine gate_builtin (b := .append) (xs := #[.tmp 45, .tmp 48]) rfl ?_); at_builtin; refine Kd.R_append_rows k47 (w0 := w) w.heap.size rfl (.tmp 45) (.tmp 48) 40 47 (.agg #[(.string ⟨#[]⟩), (.string ⟨#[]⟩)]) 32 rfl Tryz.underlying40 info47 rfl (by decide) (by omega) v133 y132 y135 _ _ _ (fun _ => True) (fun _ => False) rfl rfl ?aO ?aR (fun _ _ h => h) (fun _ h => h.elim) ?aF ?aB ?aS ?aL ?_; (case aR => repeat (first | exact (Kd.C_below HR138.out HB.out) | (with_reducible refine Kd.C_alloc ?_ _) | (with_reducible refine Kd.C_drewN ?_ _) | (with_reducible refine Kd.C_drew ?_))); (case aB => exact (by repeat (first | (with_reducible first | exact HB.out | apply below_alloc | apply pw_below_drewN | apply below_drew1 | refine below_set ?_ GE102.out) | exact HB.out))); (case aF => exact (fun _ _ => trivial)); (case aO => exact (by (with_reducible repeat (first | apply Kd.R_alloc | apply Kd.R_drewN | apply Kd.R_drew)); exact HO134.out)); (case aS => exact (below_size (by repeat (first | (with_reducible first | exact HB.out | apply below_alloc | apply pw_below_drewN | apply below_drew1 | refine below_set ?_ GE102.out) | exact HB.out)))); (case aL => have := LMc44.out; omega); intro v140 w58 ho hb hg hat; rw [← Ny139.out] at ho; have n0_ := Aside0.mk (blk_grown (g := gb102) (o := .cells #[.string a1_0, .string a1_1, .bool false] 51 (0, 0)) (by (with_reducible repeat (first | refine blk_drewN ?_ _ | refine blk_drew ?_ | refine blk_alloc ?_ _)); exact BK102.out) hg (Kd.R_ne HO134.out BK102.out (by decide))); have n1_ := Aside0.mk (hb); have n2_ := Aside0.mk (ho); clear BK102; clear HB; clear HO134; have BK102 := n0_; have HB := n1_; have HO141 := n2_; clear n0_ n1_ n2_; clear ho hb hg hat; have hcz59_0 : w58.cell? ⟨gb102, 0, none⟩ = some (.string a1_0) := (blk_cell BK102.out 0).trans rfl; have hcz59_1 : w58.cell? ⟨gb102, 1, none⟩ = some (.string a1_1) := (blk_cell BK102.out 1).trans rfl; have hcz59_2 : w58.cell? ⟨gb102, 2, none⟩ = some (.bool false) := (blk_cell BK102.out 2).trans rfl; have hfz59_0 := blk_frozen BK102.out 0; have hfz59_1 := blk_frozen BK102.out 1; have hfz59_2 := blk_frozen BK102.out 2) | ((with_reducible refine gate_builtin (b := .append) (xs := #[.tmp 53, .tmp 59]) rfl ?_); at_builtin; refine Kd.R_append k47 (w0 := w) w.heap.size rfl (.tmp 53) (.tmp 59) 40 47 (.agg #[(.string ⟨#[]⟩), (.string ⟨#[]⟩)]) 32 rfl Tryz.underlying40 info47 rfl (by decide) (by omega) v140 y139 (⟨a1_0, a1_1⟩ : S47) [.string a1_0, .string a1_1] (fun _ => True) (fun _ => False) rfl rfl ?aP (fun _ hk => hk.elim) ?aF ?aO ?aB ?aS ?aL ?_; (case aP => exact k47_mkM _ _ _ (⟨a1_0, a1_1⟩ : S47)); (case aB => exact (by repeat (first | (with_reducible first | exact HB.out | apply below_alloc | apply pw_below_drewN | apply below_drew1 | refine below_set ?_ GE102.out) | exact HB.out))); (case aF => exact (fun _ _ => trivial)); (case aO => exact (by (with_reducible repeat (first | apply Kd.R_alloc | apply Kd.R_drewN | apply Kd.R_drew)); exact HO141.out)); (case aS => exact (below_size (by repeat (first | (with_reducible first | exact HB.out | apply below_alloc | apply pw_below_drewN | apply below_drew1 | refine below_set ?_ GE102.out) | exact HB.out)))); (case aL => have := LMc53.out; omega); intro v146 w60 ho hb hg hat; rw [← Ny145.out] at ho; have n0_ := Aside0.mk (blk_grown (g := gb102) (o := .cells #[.string a1_0, .string a1_1, .bool false] 51 (0, 0)) (by (with_reducible repeat (first | refine blk_drewN ?_ _ | refine blk_drew ?_ | refine blk_alloc ?_ _)); exact BK102.out) hg (Kd.R_ne HO141.out BK102.out (by decide))); have n1_ := Aside0.mk (hb); have n2_ := Aside0.mk (ho); clear BK102; clear HB; clear HO141; have BK102 := n0_; have HB := n1_; have HO147 := n2_; clear n0_ n1_ n2_; clear ho hb hg hat) | ((with_reducible refine gate_builtin (b := .append) (xs := #[.tmp 61, .tmp 62]) rfl ?_); at_builtin; refine Kd.R_append_rows k47 (w0 := w) w.heap.size rfl (.tmp 61) (.tmp 62) 40 47 (.agg #[(.string ⟨#[]⟩), (.string ⟨#[]⟩)]) 32 rfl Tryz.underlying40 info47 rfl (by decide) (by omega) v146 y145 y104 _ _ _ (fun _ => True) (fun _ => False) rfl rfl ?aO ?aR (fun _ _ h => h) (fun _ h => h.elim) ?aF ?aB ?aS ?aL ?_; (case aR => repeat (first | exact (Kd.C_below HR107.out HB.out) | (with_reducible refine Kd.C_alloc ?_ _) | (with_reducible refine Kd.C_drewN ?_ _) | (with_reducible refine Kd.C_drew ?_))); (case aB => exact (by repeat (first | (with_reducible first | exact HB.out | apply below_alloc | apply pw_below_drewN | apply below_drew1 | refine below_set ?_ GE102.out) | exact HB.out))); (case aF => exact (fun _ _ => trivial)); (case aO => exact (by (with_reducible repeat (first | apply Kd.R_alloc | apply Kd.R_drewN | apply Kd.R_drew)); exact HO147.out)); (case aS => exact (below_size (by repeat (first | (with_reducible first | exact HB.out | apply below_alloc | apply pw_below_drewN | apply below_drew1 | refine below_set ?_ GE102.out) | exact HB.out)))); (case aL => have := LMc54.out; omega); intro v149 w61 ho hb hg hat; rw [← Ny148.out] at ho; have n0_ := Aside0.mk (blk_grown (g := gb102) (o := .cells #[.string a1_0, .string a1_1, .bool false] 51 (0, 0)) (by (with_reducible repeat (first | refine blk_drewN ?_ _ | refine blk_drew ?_ | refine blk_alloc ?_ _)); exact BK102.out) hg (Kd.R_ne HO147.out BK102.out (by decide))); have n1_ := Aside0.mk (hb); have n2_ := Aside0.mk (ho); clear BK102; clear HB; clear HO147; have BK102 := n0_; have HB := n1_; have HO150 := n2_; clear n0_ n1_ n2_; clear ho hb hg hat)); try go_wp2_with (first | ((with_reducible refine gate_dst (N := 45) rfl ?_); refine Kd.R_lit k47 _ 47 ?hg (N := 45) ?hd (xs := ([] : List (S47))) (inner := []) (ok := fun _ => True) (okp := fun _ => True) ?hr ?hp (fun _ hk => hk) trivial (Below.refl _ _) (Nat.le_refl _) (by simp) ?_; (case hd => rfl); (case hg => rfl); (case hr => first | (go_simp; done) | (go_simp; rfl)); (case hp => exact (Reps.none _ _)); intro v133 w55 ho56 hb hg_ hnew_; clear hg_ hnew_; (first | rw [← Ny132.out] at ho56 | (simp only [Int.reduceToNat] at ho56; rw [← Ny132.out] at ho56)); have n0_ := Aside0.mk (Kd.R_lower ho56 (below_size (by repeat (first | (with_reducible first | exact HB.out | apply below_alloc | apply pw_below_drewN | apply below_drew1 | refine below_set ?_ GE102.out) | exact HB.out)))); have n1_ := Aside0.mk (blk_below (g := gb102) (o := .cells #[.string a1_0, .string a1_1, .bool false] 51 (0, 0)) (by (with_reducible repeat (first | refine blk_drewN ?_ _ | refine blk_drew ?_ | refine blk_alloc ?_ _)); exact BK102.out) hb); have n2_ := Aside0.mk (below_step (by repeat (first | (with_reducible first | exact HB.out | apply below_alloc | apply pw_below_drewN | apply below_drew1 | refine below_set ?_ GE102.out) | exact HB.out)) hb); clear BK102; clear HB; have HO134 := n0_; have BK102 := n1_; have HB := n2_; clear n0_ n1_ n2_; clear hb ho56; have q57 : (x5_2 : Int) ≤ ((l0.length : Int) : Int) := of_decide_eq_true (by first | (with_reducible assumption) | assumption); obtain ⟨i057, hi057, _, hsz57, _⟩ := info_parts info47; have hroom57 : l0.length ≤ c0 := HC0.out; have hC57 : Kd.C k47 _ A0 l0.length l0 := HR0.out; have hcut57 := cut_to (P := Tryz.prog) 40 47 .i64 Tryz.underlying40 hi057 A0 l0.length c0 x5_2 (of_decide_eq_true (by first | (with_reducible assumption) | assumption)) q57 hroom57; have hr57 := Kd.C_take (m := (x5_2 : Int).toNat) hC57 (by omega); have hy57 : y135.length = (x5_2 : Int).toNat := (by rw [Ny135.out, List.length_take]; omega); rw [← Ny135.out] at hr57; rw [← hy57] at hcut57; have HR138 := Aside0.mk hr57; have HC138 := Aside0.mk (show y135.length ≤ c0 from by omega); clear hr57 hC57 hroom57 hi057 hsz57; have KY57 := Aside0.mk hy57; clear hy57; replace q57 := eq_true q57) | ((with_reducible refine gate_builtin (b := .append) (xs := #[.tmp 45, .tmp 48]) rfl ?_); at_builtin; refine Kd.R_append_rows k47 (w0 := w) w.heap.size rfl (.tmp 45) (.tmp 48) 40 47 (.agg #[(.string ⟨#[]⟩), (.string ⟨#[]⟩)]) 32 rfl Tryz.underlying40 info47 rfl (by decide) (by omega) v133 y132 y135 _ _ _ (fun _ => True) (fun _ => False) rfl rfl ?aO ?aR (fun _ _ h => h) (fun _ h => h.elim) ?aF ?aB ?aS ?aL ?_; (case aR => repeat (first | exact (Kd.C_below HR138.out HB.out) | (with_reducible refine Kd.C_alloc ?_ _) | (with_reducible refine Kd.C_drewN ?_ _) | (with_reducible refine Kd.C_drew ?_))); (case aB => exact (by repeat (first | (with_reducible first | exact HB.out | apply below_alloc | apply pw_below_drewN | apply below_drew1 | refine below_set ?_ GE102.out) | exact HB.out))); (case aF => exact (fun _ _ => trivial)); (case aO => exact (by (with_reducible repeat (first | apply Kd.R_alloc | apply Kd.R_drewN | apply Kd.R_drew)); exact HO134.out)); (case aS => exact (below_size (by repeat (first | (with_reducible first | exact HB.out | apply below_alloc | apply pw_below_drewN | apply below_drew1 | refine below_set ?_ GE102.out) | exact HB.out)))); (case aL => have := LMc44.out; omega); intro v140 w58 ho hb hg hat; rw [← Ny139.out] at ho; have n0_ := Aside0.mk (blk_grown (g := gb102) (o := .cells #[.string a1_0, .string a1_1, .bool false] 51 (0, 0)) (by (with_reducible repeat (first | refine blk_drewN ?_ _ | refine blk_drew ?_ | refine blk_alloc ?_ _)); exact BK102.out) hg (Kd.R_ne HO134.out BK102.out (by decide))); have n1_ := Aside0.mk (hb); have n2_ := Aside0.mk (ho); clear BK102; clear HB; clear HO134; have BK102 := n0_; have HB := n1_; have HO141 := n2_; clear n0_ n1_ n2_; clear ho hb hg hat; have hcz59_0 : w58.cell? ⟨gb102, 0, none⟩ = some (.string a1_0) := (blk_cell BK102.out 0).trans rfl; have hcz59_1 : w58.cell? ⟨gb102, 1, none⟩ = some (.string a1_1) := (blk_cell BK102.out 1).trans rfl; have hcz59_2 : w58.cell? ⟨gb102, 2, none⟩ = some (.bool false) := (blk_cell BK102.out 2).trans rfl; have hfz59_0 := blk_frozen BK102.out 0; have hfz59_1 := blk_frozen BK102.out 1; have hfz59_2 := blk_frozen BK102.out 2) | ((with_reducible refine gate_builtin (b := .append) (xs := #[.tmp 53, .tmp 59]) rfl ?_); at_builtin; refine Kd.R_append k47 (w0 := w) w.heap.size rfl (.tmp 53) (.tmp 59) 40 47 (.agg #[(.string ⟨#[]⟩), (.string ⟨#[]⟩)]) 32 rfl Tryz.underlying40 info47 rfl (by decide) (by omega) v140 y139 (⟨a1_0, a1_1⟩ : S47) [.string a1_0, .string a1_1] (fun _ => True) (fun _ => False) rfl rfl ?aP (fun _ hk => hk.elim) ?aF ?aO ?aB ?aS ?aL ?_; (case aP => exact k47_mkM _ _ _ (⟨a1_0, a1_1⟩ : S47)); (case aB => exact (by repeat (first | (with_reducible first | exact HB.out | apply below_alloc | apply pw_below_drewN | apply below_drew1 | refine below_set ?_ GE102.out) | exact HB.out))); (case aF => exact (fun _ _ => trivial)); (case aO => exact (by (with_reducible repeat (first | apply Kd.R_alloc | apply Kd.R_drewN | apply Kd.R_drew)); exact HO141.out)); (case aS => exact (below_size (by repeat (first | (with_reducible first | exact HB.out | apply below_alloc | apply pw_below_drewN | apply below_drew1 | refine below_set ?_ GE102.out) | exact HB.out)))); (case aL => have := LMc53.out; omega); intro v146 w60 ho hb hg hat; rw [← Ny145.out] at ho; have n0_ := Aside0.mk (blk_grown (g := gb102) (o := .cells #[.string a1_0, .string a1_1, .bool false] 51 (0, 0)) (by (with_reducible repeat (first | refine blk_drewN ?_ _ | refine blk_drew ?_ | refine blk_alloc ?_ _)); exact BK102.out) hg (Kd.R_ne HO141.out BK102.out (by decide))); have n1_ := Aside0.mk (hb); have n2_ := Aside0.mk (ho); clear BK102; clear HB; clear HO141; have BK102 := n0_; have HB := n1_; have HO147 := n2_; clear n0_ n1_ n2_; clear ho hb hg hat) | ((with_reducible refine gate_builtin (b := .append) (xs := #[.tmp 61, .tmp 62]) rfl ?_); at_builtin; refine Kd.R_append_rows k47 (w0 := w) w.heap.size rfl (.tmp 61) (.tmp 62) 40 47 (.agg #[(.string ⟨#[]⟩), (.string ⟨#[]⟩)]) 32 rfl Tryz.underlying40 info47 rfl (by decide) (by omega) v146 y145 y104 _ _ _ (fun _ => True) (fun _ => False) rfl rfl ?aO ?aR (fun _ _ h => h) (fun _ h => h.elim) ?aF ?aB ?aS ?aL ?_; (case aR => repeat (first | exact (Kd.C_below HR107.out HB.out) | (with_reducible refine Kd.C_alloc ?_ _) | (with_reducible refine Kd.C_drewN ?_ _) | (with_reducible refine Kd.C_drew ?_))); (case aB => exact (by repeat (first | (with_reducible first | exact HB.out | apply below_alloc | apply pw_below_drewN | apply below_drew1 | refine below_set ?_ GE102.out) | exact HB.out))); (case aF => exact (fun _ _ => trivial)); (case aO => exact (by (with_reducible repeat (first | apply Kd.R_alloc | apply Kd.R_drewN | apply Kd.R_drew)); exact HO147.out)); (case aS => exact (below_size (by repeat (first | (with_reducible first | exact HB.out | apply below_alloc | apply pw_below_drewN | apply below_drew1 | refine below_set ?_ GE102.out) | exact HB.out)))); (case aL => have := LMc54.out; omega); intro v149 w61 ho hb hg hat; rw [← Ny148.out] at ho; have n0_ := Aside0.mk (blk_grown (g := gb102) (o := .cells #[.string a1_0, .string a1_1, .bool false] 51 (0, 0)) (by (with_reducible repeat (first | refine blk_drewN ?_ _ | refine blk_drew ?_ | refine blk_alloc ?_ _)); exact BK102.out) hg (Kd.R_ne HO147.out BK102.out (by decide))); have n1_ := Aside0.mk (hb); have n2_ := Aside0.mk (ho); clear BK102; clear HB; clear HO147; have BK102 := n0_; have HB := n1_; have HO150 := n2_; clear n0_ n1_ n2_; clear ho hb hg hat)))
                            go_ret
                            exact ⟨_, by first | rfl | (simp [errW_none, errW_some] <;> rfl) | (simp [*, errW_none, errW_some] <;> rfl), by (with_reducible repeat (first | apply Kd.R_alloc | apply Kd.R_drewN | apply Kd.R_drew)); exact HO150.out, by repeat (first | (with_reducible first | exact HB.out | apply below_alloc | apply pw_below_drewN | apply below_drew1 | refine below_set ?_ GE102.out) | exact HB.out)⟩
                          · rw [if_neg c54] at H
                            exact absurd H (by simp)
                        · rw [if_neg c53] at H
                          exact absurd H (by simp)
                    · rw [if_neg c44] at H
                      exact absurd H (by simp)
                  · rw [if_neg c43] at H
                    exact absurd H (by simp)
                · rw [if_neg c42] at H
                  exact absurd H (by simp)
        · rw [if_neg c11] at H
          exact absurd H (by simp)
      · rw [if_neg c10] at H
        exact absurd H (by simp)

end Go.Proofs.YtopajmbblemopaaGreatDoor.XSd
namespace Go.Proofs.YtopajmbblemopaaGreatDoor.XSd
open Go.RowKit Go.Proofs.YtopajmbblemopaaGreatDoorW.PrintWords Go.Proofs.YtopajmbblemopaaGreatDoorW.PrintLast Go.Proofs.YtopajmbblemopaaGreatDoorW.PrintMore
attribute [local go_sem] max2_int min2_int max_two min_two max_three min_three max_four min_four   -- for this text's walks alone
set_option linter.unusedVariables false
set_option linter.unusedSimpArgs false

end Go.Proofs.YtopajmbblemopaaGreatDoor.XSd
namespace Go.Proofs.YtopajmbblemopaaGreatDoor
set_option linter.unusedVariables false
set_option linter.unusedSimpArgs false
open Go.RowKit Go.Maps Go.Proofs.YtopajmbblemopaaGreatDoorW.PrintWords Go.Proofs.YtopajmbblemopaaGreatDoorW.PrintLast Go.Proofs.YtopajmbblemopaaGreatDoorW.PrintMore
def pd47 (a : Txt × Txt) : XSd.S47 := ⟨str a.1, str a.2⟩
theorem rdd47 {l : Sh} {i : Nat} (h : i < l.length) : XSd.rd_T47 (l.map pd47) (i : Int) = pd47 l[i] := by simp [XSd.rd_T47, h]
theorem j2_val (K : Nat) (x0 x6 : List XSd.S47) (i : Nat) (b : Bool) (k v : ByteArray) (g : Bool) (h0 : x0.length ≤ 1000000) (h6 : x6.length ≤ 1000000) (hi : i ≤ x0.length) (hb : b = true → i < x0.length) :
    XSd.furlongref05_Do.j2 (K + 1) x0 (i : Int) x6 b k v g = some (x0.take i ++ (if g = true then [] else [⟨k, v⟩]) ++ (if b = true then x0.drop (i + 1) else x6)) := by
  have ht : ((i : Int)).toNat = i := by omega
  have htl : (x0.take i).length ≤ 1000000 := by rw [List.length_take]; omega
  have hdl : (x0.drop (i + 1)).length ≤ 1000000 := by rw [List.length_drop]; omega
  rw [XSd.furlongref05_Do.j2]
  cases b with
  | true =>
    have hi' := hb rfl
    have hw : wrap64 ((i : Int) + 1) = ((i + 1 : Nat) : Int) := by rw [swrap (by omega) (by omega)]; rfl
    have ht1 : (((i + 1 : Nat) : Int)).toNat = i + 1 := by omega
    rw [if_pos rfl, hw, if_pos (by omega), if_pos (by omega), ht1, ht]
    simp only [Option.bind_some]
    rw [if_pos (by omega), if_pos (by omega), if_pos (by simp only [List.length_nil]; omega)]
    simp only [Option.bind_some, List.nil_append]
    cases g with
    | true =>
      rw [if_pos rfl, if_pos (by omega)]
      simp
    | false =>
      rw [if_neg (by decide), if_pos (by omega), if_pos (by rw [List.length_append]; simp only [List.length_cons, List.length_nil]; omega)]
      simp
  | false =>
    rw [if_neg (by decide), ht]
    simp only [Option.bind_some]
    rw [if_pos (by omega), if_pos (by omega), if_pos (by simp only [List.length_nil]; omega)]
    simp only [Option.bind_some, List.nil_append]
    cases g with
    | true =>
      rw [if_pos rfl, if_pos (by omega)]
      simp
    | false =>
      rw [if_neg (by decide), if_pos (by omega), if_pos (by rw [List.length_append]; simp only [List.length_cons, List.length_nil]; omega)]
      simp
theorem doC_low {p : Txt × Txt} {r : Sh} {c : Chn} (h : p.1 < c.key) : doC (p :: r) c = p :: doC r c := by
  unfold doC
  split
  · rw [delS, if_pos h]
  · rw [putS, if_pos h]
theorem doC_same {p : Txt × Txt} {r : Sh} {c : Chn} (h : p.1 = c.key) : doC (p :: r) c = (if c.gone = true then [] else [(c.key, c.val)]) ++ r := by
  have hn : ¬ p.1 < c.key := fun q => ord_irr c.key (by rwa [h] at q)
  unfold doC
  split
  · rw [delS, if_neg hn, if_pos h]
    rfl
  · rw [putS, if_neg hn, if_pos h]
    rfl
theorem doC_high {p : Txt × Txt} {r : Sh} {c : Chn} (hn : ¬ p.1 < c.key) (h : p.1 ≠ c.key) : doC (p :: r) c = (if c.gone = true then [] else [(c.key, c.val)]) ++ p :: r := by
  unfold doC
  split
  · rw [delS, if_neg hn, if_neg h]
    rfl
  · rw [putS, if_neg hn, if_neg h]
    rfl
theorem doC_nil (c : Chn) : doC [] c = (if c.gone = true then [] else [(c.key, c.val)]) := by
  unfold doC
  split <;> rfl
theorem kv_map (k v : ByteArray) (g : Bool) : (if g = true then [] else [(⟨k, v⟩ : XSd.S47)]) = (if g = true then ([] : Sh) else [(bsL k, bsL v)]).map pd47 := by
  cases g with
  | true => rfl
  | false =>
    show [(⟨k, v⟩ : XSd.S47)] = [⟨str (bsL k), str (bsL v)⟩]
    rw [of_bs, of_bs]
theorem rdo_l0 (l : Sh) (hl : l.length ≤ 1000000) (k v : ByteArray) (g : Bool) : ∀ (d i K : Nat), i + d = l.length → d + 3 ≤ K →
    XSd.furlongref05_Do.l0 K (l.map pd47) (i : Int) k v g = some ((l.take i ++ doC (l.drop i) ⟨bsL k, g, bsL v⟩).map pd47)
  | 0, i, K, h, hK => by
    obtain ⟨K, rfl⟩ : ∃ j, K = j + 3 := ⟨K - 3, by omega⟩
    have hm : (l.map pd47).length = l.length := List.length_map _
    have ht : ((i : Int)).toNat = i := by omega
    rw [XSd.furlongref05_Do.l0, hm, if_neg (by omega), XSd.furlongref05_Do.j1, hm, if_pos (by omega), if_pos (by omega), ht]
    simp only [Option.bind_some]
    rw [if_neg (by omega), j2_val K _ _ i false k v g (by omega) (by rw [List.length_drop]; omega) (by omega) (fun q => by cases q), kv_map]
    have hnil : l.drop i = [] := List.drop_eq_nil_of_le (by omega)
    have hnil2 : (l.map pd47).drop i = [] := List.drop_eq_nil_of_le (by omega)
    rw [hnil, hnil2, doC_nil]
    simp only [Bool.false_eq_true, if_false, List.map_nil, List.append_nil, List.map_append, List.map_take]
  | d + 1, i, K, h, hK => by
    obtain ⟨K, rfl⟩ : ∃ j, K = j + 3 := ⟨K - 3, by omega⟩
    have hi : i < l.length := by omega
    have hm : (l.map pd47).length = l.length := List.length_map _
    have ht : ((i : Int)).toNat = i := by omega
    have hw : wrap64 ((i : Int) + 1) = ((i + 1 : Nat) : Int) := by rw [swrap (by omega) (by omega)]; rfl
    have hdr : l.drop i = l[i] :: l.drop (i + 1) := List.drop_eq_getElem_cons hi
    have hbl : Op.bytesLess (pd47 l[i]).f0.toList k.toList = decide (l[i].1 < bsL k) := by
      rw [bytesLess_lt]
      show decide ((str l[i].1).toList < k.toList) = _
      rw [str_list, ByteArray.toList_eq]
      rfl
    rw [XSd.furlongref05_Do.l0, hm, if_pos (by omega), if_pos (by omega), rdd47 hi, hbl, hdr]
    by_cases hlt : l[i].1 < bsL k
    · rw [if_pos (decide_eq_true hlt), hw, rdo_l0 l hl k v g d (i + 1) _ (by omega) (by omega), doC_low (c := ⟨bsL k, g, bsL v⟩) hlt, List.take_add_one, List.getElem?_eq_getElem hi, List.append_assoc]
      rfl
    · rw [if_neg (by rw [decide_eq_false hlt]; decide), XSd.furlongref05_Do.j1, hm, if_pos (by omega), if_pos (by omega), ht]
      simp only [Option.bind_some]
      rw [if_pos (by omega), rdd47 hi]
      have hf0 : ((pd47 l[i]).f0.toList == k.toList) = decide (l[i].1 = bsL k) := by
        show ((str l[i].1).toList == k.toList) = _
        rw [str_list, bs_toList]
        by_cases q : l[i].1 = bsL k
        · rw [decide_eq_true q]
          exact beq_iff_eq.2 q
        · rw [decide_eq_false q]
          exact beq_eq_false_iff_ne.2 q
      rw [hf0, j2_val K _ _ i _ k v g (by omega) (by rw [List.length_drop]; omega) (by omega) (fun _ => by omega), kv_map, ← List.map_take, ← List.map_drop, ← List.map_drop]
      by_cases q : l[i].1 = bsL k
      · have e := decide_eq_true q
        rw [doC_same (c := ⟨bsL k, g, bsL v⟩) q]
        simp only [e, if_true, List.map_append, List.append_assoc]
      · have e := decide_eq_false q
        rw [doC_high (c := ⟨bsL k, g, bsL v⟩) hlt q, ← hdr]
        simp only [e, Bool.false_eq_true, if_false, List.map_append, List.append_assoc]
theorem rdo_eq (l : Sh) (hl : l.length ≤ 1000000) (x : MC) (K : Nat) (hK : l.length + 3 ≤ K) : XSd.furlongref05_Do.f K (l.map pd47) x.key x.val x.gone = some ((doC l x.toC).map pd47) := by
  have := rdo_l0 l hl x.key x.val x.gone l.length 0 K (by omega) (by omega)
  unfold XSd.furlongref05_Do.f
  rw [List.take_zero, List.nil_append, List.drop_zero] at this
  exact this
/-! ### In memory -/
theorem reps_prsd {R : XSd.S47 → List Value → Prop} (h : ∀ a : XSd.S47, R a [.string a.f0, .string a.f1]) : ∀ (l : Sh), Reps R 2 (l.map pd47) (prsV l)
  | [] => Reps.none _ _
  | a :: l => by
    refine Kd.reps_append (ps := [pd47 a]) (cs := [.string (str a.1), .string (str a.2)]) ⟨rfl, fun j p hj => ?_⟩ (reps_prsd h l)
    cases j with
    | zero =>
      injection hj with hj
      subst hj
      exact h _
    | succ j => simp at hj
theorem reps_prsd_eq {R : XSd.S47 → List Value → Prop} (h : ∀ p c, R p c → c = [.string p.f0, .string p.f1]) : ∀ (l : Sh) (inner : List Value), Reps R 2 (l.map pd47) inner → inner = prsV l
  | [], inner, hr => List.eq_nil_of_length_eq_zero (by have := hr.1; simpa using this)
  | a :: l, inner, hr => by
    have hlen := hr.1
    have h0 := h _ _ (hr.2 0 (pd47 a) rfl)
    have hd := Kd.reps_drop (m := 1) hr
    have ih := reps_prsd_eq h l (inner.drop (1 * 2)) hd
    rw [Nat.zero_mul, List.drop_zero] at h0
    rw [← List.take_append_drop 2 inner, h0, ih]
    rfl
/-- What Do hands back. -/
theorem rdo_call {w : World} {S : Nat → Prop} {v : Value} {l : Sh} (h : PRow w S v l) (hl : l.length ≤ 1000000) (hS : ∀ k, S k → k < w.heap.size) (x : MC) :
    Calls Tryz.prog 24 #[v, .agg #[.string x.key, .string x.val, .bool x.gone]] w fun e w' => ∃ v', e = .returned v' ∧ PRow w' S v' (doC l x.toC) ∧ Below w.heap.size w w' := by
  obtain ⟨B, ho, _⟩ := h
  have hR : Kd.R XSd.k47 47 w B (fun _ => True) v (l.map pd47) := ⟨fun _ _ => trivial, prsV l, by rw [List.length_map]; exact ho, reps_prsd (fun a => XSd.k47_mkM w B _ a) l⟩
  obtain ⟨A, c, rfl, hc, hC⟩ := Kd.R_reads hR
  rw [List.length_map] at hc
  have := XSd.furlongref05_Do.calls (l.length + 3) A c (l.map pd47) x.key x.val x.gone _ w hC (by rw [List.length_map]; exact hc) (rdo_eq l hl x _ (Nat.le_refl _))
  refine this.mono ?_
  rintro e w' ⟨v', rfl, hR', hb⟩
  refine ⟨v', rfl, ?_, hb⟩
  obtain ⟨h0, inner, ho', hr⟩ := hR'
  have e := reps_prsd_eq (fun p c hc => XSd.k47_openM hc) _ inner hr
  subst e
  rw [List.length_map] at ho'
  exact PRow.of_own ho' hS
end Go.Proofs.YtopajmbblemopaaGreatDoor
namespace Go.Proofs.YtopajmbblemopaaGreatDoor
set_option linter.unusedVariables false
set_option linter.unusedSimpArgs false
open Go.RowKit
def SmallPost (l : List SAct) (w : World) (e : Ending) (w' : World) : Prop := ∃ b, e = .returned (.bool b) ∧ (b = true → l.length ≤ 40 ∧ (∀ a ∈ l, a.l.length ≤ 40) ∧ totA l l.length ≤ 6000) ∧ ∃ n, w' = w.drewN n
/-- The world has only drawn. -/
def Dr (w w' : World) : Prop := ∃ n, w' = w.drewN n
theorem Dr.cell {w w' : World} (h : Dr w w') {p : Addr} {v : Value} (hc : w.cell? p = some v) : w'.cell? p = some v := by
  obtain ⟨n, rfl⟩ := h
  exact hc
theorem Dr.more {w w' : World} (h : Dr w w') (n : Nat) : Dr w (w'.drewN n) := by
  obtain ⟨m, rfl⟩ := h
  exact ⟨m + n, World.drewN_drewN _ _ _⟩
theorem Dr.refl (w : World) : Dr w w := ⟨0, rfl⟩
theorem Dr.trans {a b c : World} (h : Dr a b) (k : Dr b c) : Dr a c := by
  obtain ⟨n, rfl⟩ := k
  exact h.more n
set_option maxHeartbeats 1600000 in
theorem small_any (A : Option Addr) (l : List SAct) (cap : Nat) (w : World) (hA : SActsAt w A l) (hlen : l.length ≤ 140737488351232) :
    Calls Tryz.prog 9 #[.slice A l.length cap] w (SmallPost l w) := by
  have HA := hd hA
  clear hA
  go_enter Tryz.func9, Tryz.ntmps9
  go_wp2_with (fail)
  go_loopw [3, 4] (fun n i wr => ∃ k m : Nat, k ≤ l.length ∧ k ≤ 41 ∧ m ≤ 300000000000000 ∧ i = .int .i64 k ∧ n = .int .i64 m ∧ Hd (Dr w wr ∧ (m ≤ 6000 → m = totA l k ∧ ∀ a ∈ l.take k, a.l.length ≤ 40))) (fun _ i _ => 51 - (RowKit.intOf i).toNat)
  case atStart => exact ⟨0, 0, by omega, by omega, by omega, rfl, rfl, hd ⟨Dr.refl _, fun _ => ⟨by simp [totA], fun a ha => by simp at ha⟩⟩⟩
  case round =>
    obtain ⟨k, m, hk, h61, hm, rfl, rfl, HR⟩ := hrel
    by_cases hlt : k < l.length ∧ k ≤ 40 ∧ m ≤ 6000
    · obtain ⟨h1, h2, h3⟩ := hlt
      obtain ⟨b, off, rfl⟩ := HA.out.addr (by intro h; rw [h] at h1; simp at h1)
      obtain ⟨a, ha⟩ : ∃ a, l[k]? = some a := ⟨_, List.getElem?_eq_getElem h1⟩
      have hc : wr.cell? ⟨b, off + k * 6 + 1, none⟩ = some (.slice a.A a.l.length a.c) := by
        have := HR.out.1.cell (HA.out.cell b off k 1 a _ rfl ha rfl)
        rwa [← Nat.add_assoc] at this
      have hal := (HA.out.ok a (List.mem_of_getElem? ha)).len
      have hac := (HA.out.ok a (List.mem_of_getElem? ha)).cap
      have HX := hd (HA.out.row a (List.mem_of_getElem? ha))
      have HT := hd (totA_succ l k a ha)
      have HTK : Hd (l.take (k + 1) = l.take k ++ [a]) := hd (by rw [List.take_add_one, ha]; rfl)
      clear ha
      have HC0 : Hd (wr.cell? ⟨b, off + k * 6 + 1, none⟩ = some (.slice a.A a.l.length a.c)) := hd hc
      go_wp2_with (fail)
      simp only [show decide ((m : Int) ≤ 6000) = true from decide_eq_true (by omega)]
      obtain ⟨wo, rfl⟩ : ∃ wo : World, wo = wr := ⟨_, rfl⟩
      go_loopw [3, 5] (fun n j w2 => ∃ jj m' : Nat, jj ≤ a.l.length ∧ jj ≤ 41 ∧ m' ≤ 300000000000000 ∧ j = .int .i64 jj ∧ n = .int .i64 m' ∧ Hd (Dr wo w2 ∧ (m' ≤ 6000 → m' = totA l k + totM a.l jj))) (fun _ j _ => 51 - (RowKit.intOf j).toNat)
      case atStart => exact ⟨0, m, by omega, by omega, by omega, rfl, rfl, hd ⟨Dr.refl _, fun q => by rw [(HR.out.2 q).1]; simp [totM]⟩⟩
      case round =>
        obtain ⟨jj, m', hj, hj41, hm', rfl, rfl, HS⟩ := hrel
        clear hc
        have hc := HS.out.1.cell HC0.out
        by_cases hlt : jj < a.l.length ∧ jj ≤ 40 ∧ m' ≤ 6000
        · obtain ⟨g1, g2, g3⟩ := hlt
          obtain ⟨b2, off2, hA2⟩ := HX.out.1.addr (by intro h; rw [h] at g1; simp at g1)
          obtain ⟨c, hcc⟩ : ∃ c, a.l[jj]? = some c := ⟨_, List.getElem?_eq_getElem g1⟩
          have x0 := (HR.out.1.trans HS.out.1).cell (HX.out.1.cell b2 off2 jj 0 c _ hA2 hcc rfl)
          have x1 := (HR.out.1.trans HS.out.1).cell (HX.out.1.cell b2 off2 jj 1 c _ hA2 hcc rfl)
          simp only [← Nat.add_assoc, Nat.add_zero] at x0 x1
          rw [hA2] at hc
          obtain ⟨hs1, hs2⟩ := HX.out.2 c (List.mem_of_getElem? hcc)
          have HU := hd (totM_succ a.l jj c hcc)
          clear hcc hA2
          go_wp2_with (fail)
          go_quiet (fail)
          go_wp2_with (fail)
          go_roundw
          case rel => exact ⟨jj + 1, m' + 1 + c.key.size + c.val.size, by omega, by omega, by omega, by go_num, by go_num, hd ⟨HS.out.1.more _, fun q => by rw [HU.out]; have := HS.out.2 g3; unfold szM; omega⟩⟩
          case measure => simp [RowKit.intOf]; omega
        · by_cases g1 : jj < a.l.length
          · by_cases g2 : jj ≤ 40
            · have g3 : ¬ m' ≤ 6000 := fun h => hlt ⟨g1, g2, h⟩
              clear hlt
              by_cases g4 : a.l.length ≤ 40
              · go_wp2_with (fail)
                exact ⟨⟨k + 1, m', by omega, by omega, by omega, by go_num, rfl, hd ⟨HR.out.1.trans HS.out.1, fun q => absurd q g3⟩⟩, by simp [RowKit.intOf]; omega⟩
              · go_wp2_with (fail)
                go_ret
                exact ⟨_, rfl, fun h => by simp at h, HR.out.1.trans HS.out.1⟩
            · clear hlt
              go_wp2_with (fail)
              go_ret
              exact ⟨_, rfl, fun h => by simp at h, HR.out.1.trans HS.out.1⟩
          · obtain rfl : jj = a.l.length := by omega
            clear hlt
            by_cases g2 : a.l.length ≤ 40
            · go_wp2_with (fail)
              go_roundw
              case rel =>
                refine ⟨k + 1, m', by omega, by omega, by omega, by go_num, rfl, hd ⟨HR.out.1.trans HS.out.1, fun q => ⟨by rw [HT.out]; exact HS.out.2 q, fun x hx => ?_⟩⟩⟩
                rw [HTK.out] at hx
                rcases List.mem_append.1 hx with hx | hx
                · exact (HR.out.2 h3).2 x hx
                · rw [List.mem_singleton.1 hx]; exact g2
              case measure => simp [RowKit.intOf]; omega
            · go_wp2_with (fail)
              go_ret
              exact ⟨_, rfl, fun h => by simp at h, HR.out.1.trans HS.out.1⟩
    · by_cases h1 : k < l.length
      · by_cases h2 : k ≤ 40
        · have h3 : ¬ m ≤ 6000 := fun h => hlt ⟨h1, h2, h⟩
          clear hlt
          go_wp2_with (fail)
          all_goals
            go_ret
            exact ⟨_, rfl, fun h => by simp at h <;> omega, HR.out.1⟩
        · clear hlt
          go_wp2_with (fail)
          all_goals
            go_ret
            exact ⟨_, rfl, fun h => by simp at h <;> omega, HR.out.1⟩
      · obtain rfl : k = l.length := by omega
        clear hlt
        by_cases h6 : l.length ≤ 40
        · by_cases h7 : m ≤ 6000
          · go_wp2_with (fail)
            go_ret
            refine ⟨_, rfl, fun _ => ⟨h6, ?_, ?_⟩, HR.out.1⟩
            · have := (HR.out.2 h7).2
              rwa [List.take_length] at this
            · rw [← (HR.out.2 h7).1]; exact h7
          · go_wp2_with (fail)
            go_ret
            exact ⟨_, rfl, fun h => by simp at h <;> omega, HR.out.1⟩
        · go_wp2_with (fail)
          all_goals
            go_ret
            exact ⟨_, rfl, fun h => by simp at h <;> omega, HR.out.1⟩
end Go.Proofs.YtopajmbblemopaaGreatDoor
namespace Go.Proofs.YtopajmbblemopaaGreatDoor
set_option linter.unusedVariables false
set_option linter.unusedSimpArgs false
open Go.RowKit Go.Maps Go.Proofs.YtopajmbblemopaaGreatDoorW.PrintWords Go.Proofs.YtopajmbblemopaaGreatDoorW.PrintLast Go.Proofs.YtopajmbblemopaaGreatDoorW.PrintMore
def bud : Nat → Nat
  | 0 => 140
  | k + 1 => bud k + 10140 + 4000 * k
theorem bud_mono : ∀ {j k : Nat}, j ≤ k → bud j ≤ bud k
  | j, 0, h => by rw [show j = 0 by omega]; exact Nat.le_refl _
  | j, k + 1, h => by
    rcases Nat.lt_or_ge j (k + 1) with q | q
    · have := bud_mono (j := j) (k := k) (by omega)
      show bud j ≤ bud k + 10140 + 4000 * k
      omega
    · rw [show j = k + 1 by omega]; exact Nat.le_refl _
theorem bud_top {k : Nat} (h : k ≤ 41) : bud k ≤ 4000000 := Nat.le_trans (bud_mono h) (by decide)
structure CoreAt (w0 w : World) (b sb mb lb : Nat) (l : List SAct) (k : Nat) (s : RS) (L : LS) (p pn : Sh) (fp : List Nat) : Prop where
  at_ : ShAt w0 w b sb mb lb s L p fp
  room : s.room = 4194304
  used : s.used ≤ (bud k : Nat)
  ep : L.broken = false → L.epoch ≤ (k : Int) + 1
  st : (L.broken = false ∧ ∃ bb recs, SClean s L bb recs p ∧ recs.length ≤ k) ∨ (L.broken = true ∧ ∃ bb recs bb' recs', Torn s ((k : Int) + 1) bb recs bb' recs' ∧ readTexts (bb :: recs) [] = some p ∧ readTexts (bb' :: recs') [] = some pn ∧ recs.length ≤ k ∧ recs'.length ≤ k)
  size : p.length ≤ 40 * k ∧ pn.length ≤ 40 * k
  cost : costP p ≤ totA l k + 4000 * k ∧ costP pn ≤ totA l k + 4000 * k
  val : Valid p
theorem Torn.more {s : RS} {E E' : Int} {b : Txt} {recs : List Txt} {b' : Txt} {recs' : List Txt} (h : Torn s E b recs b' recs') (hE : E ≤ E') : Torn s E' b recs b' recs' :=
  ⟨h.ok, h.dead, fun k0 k1 => by
    obtain ⟨t, e, he, q⟩ := h.told k0 k1
    exact ⟨t, e, by omega, q⟩⟩
section
variable {w0 w w' : World} {b sb mb lb : Nat} {l : List SAct} {k : Nat} {s : RS} {L : LS} {p pn : Sh} {fp : List Nat}
theorem CoreAt.below (h : CoreAt w0 w b sb mb lb l k s L p pn fp) (hb : Below w.heap.size w w') : CoreAt w0 w' b sb mb lb l k s L p pn fp :=
  ⟨h.at_.below_ hb, h.room, h.used, h.ep, h.st, h.size, h.cost, h.val⟩
theorem tot_up (l : List SAct) (k : Nat) : totA l k ≤ totA l (k + 1) := totA_mono l k (k + 1) (by omega)
theorem CoreAt.later (h : CoreAt w0 w b sb mb lb l k s L p pn fp) : CoreAt w0 w b sb mb lb l (k + 1) s L p pn fp := by
  have h1 := h.used
  have h2 := h.size
  have h3 := h.cost
  have h4 := tot_up l k
  refine ⟨h.at_, h.room, ?_, fun q => by have := h.ep q; omega, ?_, by omega, by omega, h.val⟩
  · show s.used ≤ bud k + 10140 + 4000 * k
    omega
  · rcases h.st with ⟨q, bb, recs, c, hl⟩ | ⟨q, bb, recs, bb', recs', t, r1, r2, l1, l2⟩
    · exact .inl ⟨q, bb, recs, c, by omega⟩
    · exact .inr ⟨q, bb, recs, bb', recs', t.more (by omega), r1, r2, by omega, by omega⟩
theorem CoreAt.clean (h : CoreAt w0 w b sb mb lb l k s L p pn fp) (hbr : L.broken = false) : ∃ bb recs, SClean s L bb recs p ∧ recs.length ≤ k := by
  rcases h.st with ⟨_, q⟩ | ⟨q, _⟩
  · exact q
  · rw [hbr] at q; cases q
theorem whole_commit (hG : Gl w0) (h : CoreAt w0 w b sb mb lb l k s L p pn fp) (hbr : L.broken = false) (hk : k < l.length) (hl : l.length ≤ 40) (ht : totA l l.length ≤ 6000) (a : SAct) (ha : l[k]? = some a) (ha40 : a.l.length ≤ 40) (hA : ChAt w0 a.A a.l) (hc : a.l.length ≤ a.c) :
    Calls Tryz.prog 14 #[.pointer (some ⟨sb, 0, none⟩), .slice a.A a.l.length a.c] w fun r w' => ∃ er s' L' p' pn' fp', r = .returned (.int .i64 er) ∧ CoreAt w0 w' b sb mb lb l (k + 1) s' L' p' pn' fp' ∧ Chg (Foot sb mb lb fp) w w' ∧ (∀ k, Foot sb mb lb fp' k → Foot sb mb lb fp k ∨ w.heap.size ≤ k) ∧
      ((er = 2 ∧ p = p' ∧ p = pn') ∨ (er = 0 ∧ doAll p (a.l.map MC.toC) = p' ∧ p' = pn') ∨ (er = 30 ∧ p = p' ∧ doAll p (a.l.map MC.toC) = pn')) := by
  obtain ⟨bb, recs, hcl, hrl⟩ := h.clean hbr
  have hts := totA_succ l k a ha
  have htm := totA_mono l (k + 1) l.length hk
  have hct := cost_tot a.l
  have hu := h.used
  have hsz := h.size
  have hco := h.cost
  have hep := h.ep hbr
  have hbt := bud_top (k := k + 1) (by omega)
  have hbe : bud (k + 1) = bud k + 10140 + 4000 * k := rfl
  have hcp := costP_all (a.l.map MC.toC) p
  have hlp := lenP_all (a.l.map MC.toC) p
  rw [List.length_map] at hlp
  have hsep : a.l ≠ [] → ∀ k' off, a.A = some ⟨k', off, none⟩ → ¬ Foot sb mb lb fp k' := fun hne k' off q hk' => by
    have h1 := hA.old hne q
    have h2 := h.at_.low k' hk'
    omega
  have go : ∀ {s' L' p' er}, commitM s L p (a.l.map MC.toC) = (s', L', p', er) → Calls Tryz.prog 14 #[.pointer (some ⟨sb, 0, none⟩), .slice a.A a.l.length a.c] w fun r w' => r = .returned (.int .i64 er) ∧ ShPost w0 w w' b sb mb lb fp s' L' p' := fun e =>
    sh_commit hG h.at_ hcl.lok (hA.below h.at_.below) hc (by omega) hsep (by omega) (by omega) e
  by_cases hv : ∀ x ∈ a.l.map MC.toC, isC x = true
  · by_cases hne : a.l.map MC.toC = []
    · have e : commitM s L p (a.l.map MC.toC) = (s, L, p, 0) := by
        rw [hne]
        rfl
      refine (go e).mono ?_
      rintro r w' ⟨rfl, fp', hS, hch, hf⟩
      refine ⟨0, s, L, p, p, fp', rfl, ⟨hS, h.room, by omega, fun _ => by omega, .inl ⟨hbr, bb, recs, hcl, by omega⟩, by omega, by omega, h.val⟩, hch, Foot.step hf, .inr (.inl ⟨rfl, ?_, rfl⟩)⟩
      rw [hne]
      rfl
    · rcases hcl.commit hv hne (by rw [List.length_map]; omega) (by omega) (by rw [free_eq, h.room]; omega) (by omega) with ⟨s', L', e, hc', he, hr, hro, hus, _⟩ | ⟨_, s', L', e, hbk, htn, hrt, hro, hus⟩
      · refine (go e).mono ?_
        rintro r w' ⟨rfl, fp', hS, hch, hf⟩
        exact ⟨0, s', L', _, _, fp', rfl, ⟨hS, hro.trans h.room, by omega, fun _ => by omega, .inl ⟨hc'.led.broken, bb, _, hc', by simp; omega⟩, by omega, by omega, hc'.good.2⟩, hch, Foot.step hf, .inr (.inl ⟨rfl, rfl, rfl⟩)⟩
      · refine (go e).mono ?_
        rintro r w' ⟨rfl, fp', hS, hch, hf⟩
        exact ⟨30, s', L', p, _, fp', rfl, ⟨hS, hro.trans h.room, by omega, fun q => (by rw [hbk] at q; cases q), .inr ⟨hbk, bb, recs, bb, _, htn.more (by omega), hcl.has, hrt, by omega, by simp; omega⟩, by omega, by omega, h.val⟩, hch, Foot.step hf, .inr (.inr ⟨rfl, rfl, rfl⟩)⟩
  · have e : commitM s L p (a.l.map MC.toC) = (s, L, p, 2) := by
      have he : (a.l.map MC.toC).all isC = false := by
        cases hq : (a.l.map MC.toC).all isC with
        | false => rfl
        | true => exact absurd (List.all_eq_true.1 hq) hv
      unfold commitM
      rw [if_pos he]
    refine (go e).mono ?_
    rintro r w' ⟨rfl, fp', hS, hch, hf⟩
    exact ⟨2, s, L, p, p, fp', rfl, ⟨hS, h.room, by omega, fun _ => by omega, .inl ⟨hbr, bb, recs, hcl, by omega⟩, by omega, by omega, h.val⟩, hch, Foot.step hf, .inl ⟨rfl, rfl, rfl⟩⟩
theorem whole_pack (hG : Gl w0) (h : CoreAt w0 w b sb mb lb l k s L p pn fp) (hbr : L.broken = false) (hk : k < l.length) (hl : l.length ≤ 40) (ht : totA l l.length ≤ 6000) :
    Calls Tryz.prog 20 #[.pointer (some ⟨sb, 0, none⟩)] w fun r w' => ∃ er s' L' fp', r = .returned (.int .i64 er) ∧ CoreAt w0 w' b sb mb lb l (k + 1) s' L' p p fp' ∧ Chg (Foot sb mb lb fp) w w' ∧ (∀ k, Foot sb mb lb fp' k → Foot sb mb lb fp k ∨ w.heap.size ≤ k) ∧ (er = 0 ∨ er = 30) := by
  obtain ⟨bb, recs, hcl, hrl⟩ := h.clean hbr
  have hts := tot_up l k
  have htm := totA_mono l k l.length (by omega)
  have hu := h.used
  have hsz := h.size
  have hco := h.cost
  have hep := h.ep hbr
  have hbt := bud_top (k := k + 1) (by omega)
  have hbe : bud (k + 1) = bud k + 10140 + 4000 * k := rfl
  have hcc : costC (packC p) = costP p := rfl
  have go : ∀ {s' L' er}, packM s L p = (s', L', er) → Calls Tryz.prog 20 #[.pointer (some ⟨sb, 0, none⟩)] w fun r w' => r = .returned (.int .i64 er) ∧ ShPost w0 w w' b sb mb lb fp s' L' p := fun e =>
    sh_pack hG h.at_ hcl.lok (by omega) h.val (by omega) e
  rcases hcl.pack (by omega) (by omega) (by rw [free_eq, h.room]; omega) (by omega) with ⟨s', L', e, hc', he, hr, hro, hus, _⟩ | ⟨_, s', L', e, hbk, htn, hrt, hro, hus⟩
  · refine (go e).mono ?_
    rintro r w' ⟨rfl, fp', hS, hch, hf⟩
    exact ⟨0, s', L', fp', rfl, ⟨hS, hro.trans h.room, by omega, fun _ => by omega, .inl ⟨hc'.led.broken, _, _, hc', by simp⟩, by omega, by omega, h.val⟩, hch, Foot.step hf, .inl rfl⟩
  · refine (go e).mono ?_
    rintro r w' ⟨rfl, fp', hS, hch, hf⟩
    exact ⟨30, s', L', fp', rfl, ⟨hS, hro.trans h.room, by omega, fun q => (by rw [hbk] at q; cases q), .inr ⟨hbk, bb, recs, _, _, htn.more (by omega), hcl.has, hrt, by omega, by simp⟩, by omega, by omega, h.val⟩, hch, Foot.step hf, .inr rfl⟩
theorem whole_arm (h : CoreAt w0 w b sb mb lb l k s L p pn fp) (n : Int) (h0 : -9223372036854775808 ≤ n) (h1 : n ≤ 9223372036854775807) :
    Calls Tryz.prog 25 #[.pointer (some ⟨b, 0, none⟩), .int .i64 n] w fun r w' => r = .returned (.tuple #[]) ∧ ∃ fp', CoreAt w0 w' b sb mb lb l (k + 1) (s.arm n) L p pn fp' ∧ Chg (Foot sb mb lb fp) w w' ∧ (∀ k, Foot sb mb lb fp' k → Foot sb mb lb fp k ∨ w.heap.size ≤ k) := by
  have hu := h.used
  have hsz := h.size
  have hco := h.cost
  have hts := tot_up l k
  have hbe : bud (k + 1) = bud k + 10140 + 4000 * k := rfl
  refine (own_sarm h.at_ n h0 h1).mono ?_
  rintro r w' ⟨rfl, fp', hS, hch, hf⟩
  have hua : (s.arm n).used = s.used := rfl
  refine ⟨rfl, fp', ⟨hS, h.room, by omega, fun q => by have := h.ep q; omega, ?_, by omega, by omega, h.val⟩, hch, Foot.step hf⟩
  rcases h.st with ⟨q0, bb, recs, c, hl⟩ | ⟨q0, bb, recs, bb', recs', t, r1, r2, l1, l2⟩
  · have q := c.led
    exact .inl ⟨q0, bb, recs, ⟨⟨q.ok.arm h0 h1, q.dead, q.broken, q.tape, q.full, q.rest, q.safe', q.rest', q.n, q.fits⟩, c.has⟩, by omega⟩
  · refine .inr ⟨q0, bb, recs, bb', recs', ⟨t.ok.arm h0 h1, t.dead, fun k0 k1 => ?_⟩, r1, r2, by omega, by omega⟩
    obtain ⟨tt, e, he, r⟩ := t.told k0 k1
    exact ⟨tt, e, by omega, r⟩
/-- Behind a crash: opened anew. -/
theorem whole_crash (hG : Gl w0) (k0 k1 : Int) (h : CoreAt w0 w b sb mb lb l k s L p pn fp) (hk : k ≤ 40) :
    Calls Tryz.prog 22 #[.pointer (some ⟨b, 0, none⟩), .agg #[.int .i64 k0, .int .i64 k1, .int .u8 0]] w fun r w1 => r = .returned (.tuple #[]) ∧
      Calls Tryz.prog 13 #[.pointer (some ⟨b, 0, none⟩)] w1 fun r w' => ∃ sb' mb' lb' F s' L' fp', r = .returned (.tuple #[.pointer (some ⟨sb', 0, none⟩), .int .i64 0]) ∧
        CoreAt w0 w' b sb' mb' lb' l (k + 1) s' L' F F fp' ∧ (F = p ∨ F = pn) ∧ ∀ v x, PRow w (Foot sb mb lb fp) v x → PRow w' (Foot sb' mb' lb' fp') v x := by
  have hu := h.used
  have hsz := h.size
  have hco := h.cost
  have hts := tot_up l k
  have hbe : bud (k + 1) = bud k + 10140 + 4000 * k := rfl
  have hA : ∃ t e bb recs F, e ≤ (k : Int) + 1 ∧ After (s.crash k0 k1 0) t e bb recs ∧ readTexts (bb :: recs) [] = some F ∧ recs.length ≤ k ∧ (F = p ∨ F = pn) := by
    rcases h.st with ⟨q0, bb, recs, c, hl⟩ | ⟨q0, bb, recs, bb', recs', t, r1, r2, l1, l2⟩
    · exact ⟨L.tape, L.epoch, bb, recs, p, h.ep q0, c.led.after k0 k1 0, c.has, hl, .inl rfl⟩
    · obtain ⟨tt, e, he, r⟩ := t.told k0 k1
      rcases r with r | r
      · exact ⟨tt, e, bb, recs, p, he, r, r1, l1, .inl rfl⟩
      · exact ⟨tt, e, bb', recs', pn, he, r, r2, l2, .inr rfl⟩
  obtain ⟨t, e, bb, recs, F, he, hAf, hrt, hrl, hor⟩ := hA
  obtain ⟨s3, L3, n3, o3, f3, p3, c3, e3, t3, l3, m3, u3⟩ := hAf.shelf hrt
  have hcu := crash_used s k0 k1 0
  have hF : F.length ≤ 40 * k ∧ costP F ≤ totA l k + 4000 * k := by
    rcases hor with rfl | rfl
    · exact ⟨hsz.1, hco.1⟩
    · exact ⟨hsz.2, hco.2⟩
  refine (own_scrash h.at_ k0 k1 0).mono ?_
  rintro r w1 ⟨rfl, fp1, hS1, hch1, hf1⟩
  refine ⟨rfl, ?_⟩
  refine (own_sopen hG hS1.mine o3 f3 p3 hrt (by omega)).mono ?_
  rintro r w2 ⟨fp', sb', mb', lb', rfl, hS2, hch2, hf2⟩
  refine ⟨sb', mb', lb', F, s3, L3, fp', rfl, ⟨hS2, m3.trans h.room, by omega, fun _ => by omega, .inl ⟨c3.led.broken, bb, recs, c3, by omega⟩, by omega, by omega, c3.good.2⟩, hor, fun v x hr => ?_⟩
  have h1 : PRow w1 (Foot sb mb lb fp1) v x := hr.step hch1 (Foot.step hf1)
  exact h1.step (hch2.mono (S' := Foot sb mb lb fp1) (fun _ _ q => .inr (.inr (.inr q)))) (fun k hk => (hf2 k hk).elim (fun q => .inl (.inr (.inr (.inr q)))) .inr)
end
end Go.Proofs.YtopajmbblemopaaGreatDoor
namespace Go.Proofs.YtopajmbblemopaaGreatDoor
set_option linter.unusedVariables false
set_option linter.unusedSimpArgs false
open Go.RowKit Go.Maps Go.Proofs.YtopajmbblemopaaGreatDoorW.PrintWords Go.Proofs.YtopajmbblemopaaGreatDoorW.PrintLast Go.Proofs.YtopajmbblemopaaGreatDoorW.PrintMore
theorem Dr.below {w w' : World} (h : Dr w w') : Below w.heap.size w w' := by
  obtain ⟨n, rfl⟩ := h
  exact below_drewN0 w n
/-- What stands between two acts. -/
structure WhAt (w0 w : World) (b sb mb lb : Nat) (l : List SAct) (k : Nat) (s : RS) (L : LS) (p pn : Sh) (va vn : Value) (fp : List Nat) : Prop where
  core : CoreAt w0 w b sb mb lb l k s L p pn fp
  ra : PRow w (Foot sb mb lb fp) va p
  rn : PRow w (Foot sb mb lb fp) vn pn
theorem WhAt.below {w0 w w' : World} {b sb mb lb : Nat} {l : List SAct} {k : Nat} {s : RS} {L : LS} {p pn : Sh} {va vn : Value} {fp : List Nat} (h : WhAt w0 w b sb mb lb l k s L p pn va vn fp) (hb : Below w.heap.size w w') : WhAt w0 w' b sb mb lb l k s L p pn va vn fp := ⟨h.core.below hb, h.ra.below hb, h.rn.below hb⟩
theorem WhAt.later {w0 w : World} {b sb mb lb : Nat} {l : List SAct} {k : Nat} {s : RS} {L : LS} {p pn : Sh} {va vn : Value} {fp : List Nat} (h : WhAt w0 w b sb mb lb l k s L p pn va vn fp) : WhAt w0 w b sb mb lb l (k + 1) s L p pn va vn fp := ⟨h.core.later, h.ra, h.rn⟩
set_option maxRecDepth 20000 in
set_option maxHeartbeats 6400000 in
theorem whole_core (w : World) (hG : Gl w) (A : Option Addr) (c : Nat) (l : List SAct) (hA : SActsAt w A l) (hlen : l.length ≤ 140737488351232) :
    Calls Tryz.prog 6 #[.slice A l.length c] w fun e w' => e = .returned (.bool true) ∧ Below w.heap.size w w' := by
  have LV := hd (slive_at hG)
  have HG := hd hG
  have HA := hd hA
  have HSM := hd (small_any A l c w hA hlen)
  clear hG hA
  go_enter Tryz.func6, Tryz.ntmps6
  go_wp2_with (fail)
  refine HSM.out.mono ?_
  intro e w1 hpost
  obtain ⟨bs, rfl, hb, hdr⟩ := hpost
  have HDR := hd (show Below w.heap.size w w1 from Dr.below hdr)
  have HB := hd hb
  clear hb hdr HSM
  cases bs with
  | false =>
    go_wp2_with (go_at_call 10; refine (LV.out _ HDR.out).mono ?_; rintro e w2 ⟨rfl, hl⟩)
    go_ret
    exact ⟨rfl, hl⟩
  | true =>
    obtain ⟨hl40, hall, htot⟩ := HB.out rfl
    have HALL := hd hall
    clear HB hall
    obtain ⟨s1, L1, o1, c1, f1, p1, e1, _, l1, m1, u1⟩ := shelf_new 4194304 (by omega) (by omega)
    have HN := hd (own_new 4194304 w w1 HDR.out (by decide) (by decide))
    have HO := hd (fun (w' : World) (b : Nat) (fp : List Nat) (h : MineL w w' b (RS.new 4194304) fp) => own_sopen (p := []) HG.out h o1 f1 p1 rfl (by decide))
    have HC1 := hd c1
    have HE1 := hd e1
    clear o1 f1 p1 c1 e1
    go_wp2_with (go_at_call 12; refine (num5_any _ _).mono ?_; rintro e w' ⟨rfl, rfl⟩)
    refine HN.out.mono ?_
    rintro e w2 ⟨b, fp1, rfl, hm1, _⟩
    have HM1 := hd hm1
    clear hm1 HN
    go_wp2_with (go_at_call 12; refine (num5_any _ _).mono ?_; rintro e w' ⟨rfl, rfl⟩)
    refine (HO.out _ b fp1 HM1.out).mono ?_
    rintro e w3 ⟨fp2, sb0, mb0, lb0, rfl, hs, _, _⟩
    have HP0 : Hd (WhAt w w3 b sb0 mb0 lb0 l 0 s1 L1 [] [] (.slice none 0 0) (.slice none 0 0) fp2) := hd ⟨⟨hs, m1, u1, fun _ => by rw [HE1.out]; decide, .inl ⟨HC1.out.led.broken, [], [], HC1.out, Nat.le_refl _⟩, ⟨Nat.le_refl _, Nat.le_refl _⟩, ⟨Nat.zero_le _, Nat.zero_le _⟩, fun _ h => by cases h⟩, PRow.nil _ _, PRow.nil _ _⟩
    clear hs HM1 HO HC1 HE1
    go_wp2_with (go_at_call 12; refine (num5_any _ _).mono ?_; rintro e w' ⟨rfl, rfl⟩)
    go_loopw [5, 7, 8, 9] (fun sv va vn i wr => ∃ (k sb mb lb : Nat) (s : RS) (L : LS) (p pn : Sh) (fp : List Nat), k ≤ l.length ∧ sv = .pointer (some ⟨sb, 0, none⟩) ∧ i = .int .i64 k ∧ Hd (WhAt w wr b sb mb lb l k s L p pn va vn fp)) (fun _ _ _ i _ => l.length - (RowKit.intOf i).toNat)
    case atStart => exact ⟨0, sb0, mb0, lb0, s1, L1, [], [], fp2, by omega, rfl, rfl, HP0⟩
    case round =>
      obtain ⟨k, sb, mb, lb, s, L, p, pn, fp, hk, rfl, rfl, HW⟩ := hrel
      by_cases hlt : k < l.length
      · obtain ⟨b2, off2, rfl⟩ := HA.out.addr (by intro h; rw [h] at hlt; simp at hlt)
        obtain ⟨a, ha⟩ : ∃ a, l[k]? = some a := ⟨_, List.getElem?_eq_getElem hlt⟩
        have hcell : ∀ j v, a.cells[j]? = some v → wr.cell? ⟨b2, off2 + (k * 6 + j), none⟩ = some v := fun j v hj => by
          have h1 := HA.out.cell b2 off2 k j a v rfl ha hj
          exact (HW.out.core.at_.below.cell (World.block_lt_of_cell? w _ h1)).trans h1
        have c0 := hcell 0 _ rfl
        have c1 := hcell 1 _ rfl
        have c2 := hcell 2 _ rfl
        have c3 := hcell 3 _ rfl
        have c4 := hcell 4 _ rfl
        have c5 := hcell 5 _ rfl
        simp only [← Nat.add_assoc, Nat.add_zero] at c0 c1 c2 c3 c4 c5
        have hmem := List.mem_of_getElem? ha
        have HOK := hd (HA.out.ok a hmem)
        have HROW := hd (HA.out.row a hmem).1
        have ha40 := HALL.out a hmem
        have HAK := hd ha
        have HL1 := hd (HW.out.below ((Below.refl _ _).alloc (Nat.le_refl _) (.cells a.cells.toArray 28)))
        have HX : Hd (Blk (wr.alloc (.cells a.cells.toArray 28)) wr.heap.size a.cells 28) := hd (Blk.new _ _ _)
        have HFT : Hd (∀ k', Foot sb mb lb fp k' → k' < wr.heap.size) := hd (fun k' hk' => HW.out.core.at_.lt k' hk')
        clear ha hcell hmem
        by_cases hk0 : a.kind = 0
        · have hac : a.cells = [.int .i64 0, .slice a.A a.l.length a.c, .int .i64 a.n, .int .i64 a.k0, .int .i64 a.k1, .int .u8 a.turn.toNat] := by unfold SAct.cells; rw [hk0]
          rw [hk0] at c0
          rw [hac] at HL1 HX
          clear hac hk0
          go_wp2_with (fail)
          generalize wr.alloc (.cells #[.int .i64 0, .slice a.A a.l.length a.c, .int .i64 a.n, .int .i64 a.k0, .int .i64 a.k1, .int .u8 a.turn.toNat] 28) = W1 at *
          have HPT := hd HL1.out.core.at_
          cases hbr : L.broken with
          | true =>
            have HBK := hd (sh_broken HPT.out)
            rw [hbr] at HBK
            clear hbr
            go_wp2_with (go_at_call 23; refine HBK.out.mono ?_; rintro e w' ⟨rfl, rfl⟩)
            exact ⟨⟨k + 1, sb, mb, lb, s, L, p, pn, fp, by omega, rfl, by go_num, hd HL1.out.later⟩, by simp [RowKit.intOf]; omega⟩
          | false =>
            have HBK := hd (sh_broken HPT.out)
            rw [hbr] at HBK
            have HCM := hd (whole_commit HG.out HL1.out.core hbr hlt hl40 htot a HAK.out ha40 HROW.out HOK.out.cap)
            have hp40 := HL1.out.core.size.1
            have x0 := HX.out.cell 0
            have x1 := HX.out.cell 1
            clear hbr
            go_wp2_with (first | (go_at_call 23; refine HBK.out.mono ?_; rintro e w' ⟨rfl, rfl⟩) | (go_at_call 12; refine (num5_any _ _).mono ?_; rintro e w' ⟨rfl, rfl⟩) | (go_at_call 14; refine HCM.out.mono ?_; rintro e w6 ⟨er, s', L', p', pn', fp', rfl, hcore, hch, hf, hor⟩; have HCORE := hd hcore; have HRA6 := hd (HL1.out.ra.step hch hf); have HOR := hd hor; have HX6 := hd (chg_cell hch x1 (fun q => Nat.lt_irrefl _ (HFT.out _ q))); clear hcore hch hf hor))
            clear HCM HBK
            obtain ⟨wo, rfl⟩ : ∃ wo : World, wo = wr := ⟨_, rfl⟩
            go_loopw [8, 12] (fun nv j w8 => ∃ jj : Nat, jj ≤ a.l.length ∧ j = .int .i64 jj ∧ Hd (PRow w8 (Foot sb mb lb fp') nv (doAll p ((a.l.take jj).map MC.toC)) ∧ Below w6.heap.size w6 w8)) (fun _ j _ => a.l.length - (RowKit.intOf j).toNat)
            case atStart => exact ⟨0, by omega, rfl, hd ⟨HRA6.out, Below.refl _ _⟩⟩
            case round =>
              obtain ⟨jj, hjj, rfl, HJ⟩ := hrel
              have y1 := (HJ.out.2.cell (World.block_lt_of_cell? w6 _ HX6.out)).trans HX6.out
              by_cases hjlt : jj < a.l.length
              · obtain ⟨b3, off3, hA3⟩ := HROW.out.addr (by intro h; rw [h] at hjlt; simp at hjlt)
                obtain ⟨x, hx⟩ : ∃ x, a.l[jj]? = some x := ⟨_, List.getElem?_eq_getElem hjlt⟩
                have hcx : ∀ j v, x.cells[j]? = some v → wr.cell? ⟨b3, off3 + (jj * 3 + j), none⟩ = some v := fun j v hj => by
                  have h1 := HROW.out.cell b3 off3 jj j x v hA3 hx hj
                  have hbw := HCORE.out.at_.below
                  exact ((hbw.trans (HJ.out.2.mono hbw.size)).cell (World.block_lt_of_cell? w _ h1)).trans h1
                have z0 := hcx 0 _ rfl
                have z1 := hcx 1 _ rfl
                have z2 := hcx 2 _ rfl
                simp only [← Nat.add_assoc, Nat.add_zero] at z0 z1 z2
                rw [hA3] at y1
                have hst : doC (doAll p ((a.l.take jj).map MC.toC)) x.toC = doAll p ((a.l.take (jj + 1)).map MC.toC) := by
                  rw [List.take_add_one, hx, List.map_append, do_app]
                  rfl
                have hln := lenP_all ((a.l.take jj).map MC.toC) p
                rw [List.length_map, List.length_take] at hln
                have HDO := hd (rdo_call HJ.out.1 (by omega) (fun k' hk' => Nat.lt_of_lt_of_le (HCORE.out.at_.lt k' hk') HJ.out.2.size) x)
                rw [hst] at HDO
                clear hx hcx hst hln hA3
                go_wp2_with (fail)
                refine HDO.out.mono ?_
                rintro e w9 ⟨nv', rfl, hr9, hb9⟩
                have HR9 := hd hr9
                have HB9 := hd (HJ.out.2.trans (hb9.mono HJ.out.2.size))
                clear hr9 hb9 HDO
                go_wp2_with (fail)
                go_roundw
                case rel => exact ⟨jj + 1, by omega, by go_num, hd ⟨HR9.out, HB9.out⟩⟩
                case measure => simp [RowKit.intOf]; omega
              · obtain rfl : jj = a.l.length := by omega
                have hj1 := HJ.out.1
                rw [List.take_length] at hj1
                have HN8 := hd hj1
                have HA8 := hd (HRA6.out.below HJ.out.2)
                have HC8 := hd (HCORE.out.below HJ.out.2)
                have hp41 := HC8.out.size
                clear hj1 HCORE HRA6
                have HSC := hd (own_scan0 HC8.out.at_ (by omega) HC8.out.val)
                rcases HOR.out with ⟨rfl, rfl, rfl⟩ | ⟨rfl, rfl, rfl⟩ | ⟨rfl, rfl, rfl⟩
                · go_wp2_with (go_at_call 15; refine HSC.out.mono ?_; rintro e w9 ⟨vs, rfl, hrs, hb9⟩; have HRS := hd hrs; have HB9 := hd hb9; clear hrs hb9)
                  refine (psame_call HRS.out (HA8.out.below HB9.out) (by omega)).mono ?_
                  rintro e w10 ⟨rfl, n10, rfl⟩
                  rw [decide_eq_true (rfl : p = p)]
                  have HW10 : Hd (WhAt w (w9.drewN n10) b sb mb lb l (k + 1) s' L' p p u7 u7 fp') := hd (WhAt.below ⟨HC8.out.below HB9.out, HA8.out.below HB9.out, HA8.out.below HB9.out⟩ (below_drewN0 w9 n10))
                  clear HSC HRS HC8 HA8 HN8 HPT HL1 HX
                  go_wp2_with (fail)
                  exact ⟨⟨k + 1, sb, mb, lb, s', L', p, p, fp', by omega, rfl, by go_num, HW10⟩, by simp [RowKit.intOf]; omega⟩
                · go_wp2_with (go_at_call 15; refine HSC.out.mono ?_; rintro e w9 ⟨vs, rfl, hrs, hb9⟩; have HRS := hd hrs; have HB9 := hd hb9; clear hrs hb9)
                  refine (psame_call HRS.out (HN8.out.below HB9.out) (by omega)).mono ?_
                  rintro e w10 ⟨rfl, n10, rfl⟩
                  rw [decide_eq_true (rfl : (doAll p (a.l.map MC.toC)) = (doAll p (a.l.map MC.toC)))]
                  have HW10 : Hd (WhAt w (w9.drewN n10) b sb mb lb l (k + 1) s' L' (doAll p (a.l.map MC.toC)) (doAll p (a.l.map MC.toC)) u8 u8 fp') := hd (WhAt.below ⟨HC8.out.below HB9.out, HN8.out.below HB9.out, HN8.out.below HB9.out⟩ (below_drewN0 w9 n10))
                  clear HSC HRS HC8 HA8 HN8 HPT HL1 HX
                  go_wp2_with (fail)
                  exact ⟨⟨k + 1, sb, mb, lb, s', L', (doAll p (a.l.map MC.toC)), (doAll p (a.l.map MC.toC)), fp', by omega, rfl, by go_num, HW10⟩, by simp [RowKit.intOf]; omega⟩
                · go_wp2_with (go_at_call 15; refine HSC.out.mono ?_; rintro e w9 ⟨vs, rfl, hrs, hb9⟩; have HRS := hd hrs; have HB9 := hd hb9; clear hrs hb9)
                  refine (psame_call HRS.out (HA8.out.below HB9.out) (by omega)).mono ?_
                  rintro e w10 ⟨rfl, n10, rfl⟩
                  rw [decide_eq_true (rfl : p = p)]
                  have HW10 : Hd (WhAt w (w9.drewN n10) b sb mb lb l (k + 1) s' L' p (doAll p (a.l.map MC.toC)) u7 u8 fp') := hd (WhAt.below ⟨HC8.out.below HB9.out, HA8.out.below HB9.out, HN8.out.below HB9.out⟩ (below_drewN0 w9 n10))
                  clear HSC HRS HC8 HA8 HN8 HPT HL1 HX
                  go_wp2_with (fail)
                  exact ⟨⟨k + 1, sb, mb, lb, s', L', p, (doAll p (a.l.map MC.toC)), fp', by omega, rfl, by go_num, HW10⟩, by simp [RowKit.intOf]; omega⟩
        by_cases hk1 : a.kind = 1
        · have hac : a.cells = [.int .i64 1, .slice a.A a.l.length a.c, .int .i64 a.n, .int .i64 a.k0, .int .i64 a.k1, .int .u8 a.turn.toNat] := by unfold SAct.cells; rw [hk1]
          rw [hk1] at c0
          rw [hac] at HL1 HX
          clear hac hk0 hk1
          go_wp2_with (fail)
          generalize wr.alloc (.cells #[.int .i64 1, .slice a.A a.l.length a.c, .int .i64 a.n, .int .i64 a.k0, .int .i64 a.k1, .int .u8 a.turn.toNat] 28) = W1 at *
          have HPT := hd HL1.out.core.at_
          cases hbr : L.broken with
          | true =>
            have HBK := hd (sh_broken HPT.out)
            rw [hbr] at HBK
            clear hbr
            go_wp2_with (go_at_call 23; refine HBK.out.mono ?_; rintro e w' ⟨rfl, rfl⟩)
            exact ⟨⟨k + 1, sb, mb, lb, s, L, p, pn, fp, by omega, rfl, by go_num, hd HL1.out.later⟩, by simp [RowKit.intOf]; omega⟩
          | false =>
            have HBK := hd (sh_broken HPT.out)
            rw [hbr] at HBK
            have HCM := hd (whole_pack HG.out HL1.out.core hbr hlt hl40 htot)
            have hp40 := HL1.out.core.size.1
            have x0 := HX.out.cell 0
            clear hbr
            go_wp2_with (go_at_call 23; refine HBK.out.mono ?_; rintro e w' ⟨rfl, rfl⟩)
            refine HCM.out.mono ?_
            rintro e w6 ⟨er, s', L', fp', rfl, hcore, hch, hf, hor⟩
            have HCORE := hd hcore
            have HRA6 := hd (HL1.out.ra.step hch hf)
            clear hch hf HCM HBK HL1 HX HW
            have hp41 := hcore.size
            clear hcore
            have HSC := hd (own_scan0 HCORE.out.at_ (by omega) HCORE.out.val)
            rcases hor with rfl | rfl
            all_goals
              go_wp2_with (first | (go_at_call 12; refine (num5_any _ _).mono ?_; rintro e w' ⟨rfl, rfl⟩) | (go_at_call 15; refine HSC.out.mono ?_; rintro e w9 ⟨vs, rfl, hrs, hb9⟩; have HRS := hd hrs; have HB9 := hd hb9; clear hrs hb9))
              refine (psame_call HRS.out (HRA6.out.below HB9.out) (by omega)).mono ?_
              rintro e w10 ⟨rfl, n10, rfl⟩
              rw [decide_eq_true (rfl : p = p)]
              have HW10 : Hd (WhAt w (w9.drewN n10) b sb mb lb l (k + 1) s' L' p p u7 u7 fp') := hd (WhAt.below ⟨HCORE.out.below HB9.out, HRA6.out.below HB9.out, HRA6.out.below HB9.out⟩ (below_drewN0 w9 n10))
              clear HSC HRS HCORE HRA6 HPT
              go_wp2_with (fail)
              exact ⟨⟨k + 1, sb, mb, lb, s', L', p, p, fp', by omega, rfl, by go_num, HW10⟩, by simp [RowKit.intOf]; omega⟩
        by_cases hk2 : a.kind = 2
        · have hac : a.cells = [.int .i64 2, .slice a.A a.l.length a.c, .int .i64 a.n, .int .i64 a.k0, .int .i64 a.k1, .int .u8 a.turn.toNat] := by unfold SAct.cells; rw [hk2]
          rw [hk2] at c0
          rw [hac] at HL1 HX
          clear hac hk0 hk1 hk2
          go_wp2_with (fail)
          generalize wr.alloc (.cells #[.int .i64 2, .slice a.A a.l.length a.c, .int .i64 a.n, .int .i64 a.k0, .int .i64 a.k1, .int .u8 a.turn.toNat] 28) = W1 at *
          have x0 := HX.out.cell 0
          have x2 := HX.out.cell 2
          refine (whole_arm HL1.out.core a.n HOK.out.n0 HOK.out.n1).mono ?_
          rintro e wn ⟨rfl, fp', hcore, hch, hf⟩
          have HW2 : Hd (WhAt w wn b sb mb lb l (k + 1) (s.arm a.n) L p pn u7 u8 fp') := hd ⟨hcore, HL1.out.ra.step hch hf, HL1.out.rn.step hch hf⟩
          clear hcore hch hf HL1 HX HW
          go_wp2_with (fail)
          exact ⟨⟨k + 1, sb, mb, lb, s.arm a.n, L, p, pn, fp', by omega, rfl, by go_num, HW2⟩, by simp [RowKit.intOf]; omega⟩
        by_cases hk3 : a.kind = 3
        · have hac : a.cells = [.int .i64 3, .slice a.A a.l.length a.c, .int .i64 a.n, .int .i64 a.k0, .int .i64 a.k1, .int .u8 a.turn.toNat] := by unfold SAct.cells; rw [hk3]
          rw [hk3] at c0
          rw [hac] at HL1 HX
          clear hac hk0 hk1 hk2 hk3
          by_cases ht0 : a.turn.toNat = 0
          · rw [ht0] at HL1 HX c5
            clear HW
            go_wp2_with (fail)
            generalize wr.alloc (.cells #[.int .i64 3, .slice a.A a.l.length a.c, .int .i64 a.n, .int .i64 a.k0, .int .i64 a.k1, .int .u8 0] 28) = W1 at *
            clear c0 c1 c2 c3 c4 c5
            have HCR := hd (whole_crash HG.out a.k0 a.k1 HL1.out.core (by omega))
            have hp40 := HL1.out.core.size
            refine HCR.out.mono ?_
            rintro e w5 ⟨rfl, ho⟩
            have HO5 := hd ho
            clear ho HCR
            go_wp2_with (fail)
            refine HO5.out.mono ?_
            rintro e w6 ⟨sb', mb', lb', F, s', L', fp', rfl, hcore, hor, hrows⟩
            have HCORE := hd hcore
            have HOR := hd hor
            have HRA6 := hd (hrows _ _ HL1.out.ra)
            have HRN6 := hd (hrows _ _ HL1.out.rn)
            clear hcore hor hrows HO5 HL1 HX
            have hF := HCORE.out.size.1
            have HSC := hd (own_scan0 HCORE.out.at_ (by omega) HCORE.out.val)
            go_wp2_with (first | (go_at_call 12; refine (num5_any _ _).mono ?_; rintro e w' ⟨rfl, rfl⟩) | (go_at_call 15; refine HSC.out.mono ?_; rintro e w7 ⟨vx, rfl, hrx, hb7⟩; have HRX := hd hrx; have HB7 := hd hb7; clear hrx hb7))
            have HC7 := hd (HCORE.out.below HB7.out)
            have HRA7 := hd (HRA6.out.below HB7.out)
            have HRN7 := hd (HRN6.out.below HB7.out)
            clear HCORE HRA6 HRN6 HSC HB7
            refine (psame_call HRX.out HRA7.out (by omega)).mono ?_
            rintro e w8 ⟨rfl, n8, rfl⟩
            have HW8 : Hd (WhAt w (w7.drewN n8) b sb' mb' lb' l (k + 1) s' L' F F vx vx fp') := hd (WhAt.below ⟨HC7.out, HRX.out, HRX.out⟩ (below_drewN0 w7 n8))
            have HRX8 := hd (HRX.out.below (below_drewN0 w7 n8))
            have HRN8 := hd (HRN7.out.below (below_drewN0 w7 n8))
            clear HC7 HRA7 HRN7 HRX
            generalize w7.drewN n8 = w8 at *
            by_cases hFp : F = p
            · rw [decide_eq_true hFp]
              clear hFp
              go_wp2_with (fail)
              exact ⟨⟨k + 1, sb', mb', lb', s', L', F, F, fp', by omega, rfl, by go_num, HW8⟩, by simp [RowKit.intOf]; omega⟩
            · have hFn : F = pn := HOR.out.resolve_left hFp
              have HSM2 := hd (psame_call HRX8.out HRN8.out (by omega))
              rw [decide_eq_true hFn] at HSM2
              rw [decide_eq_false hFp]
              clear hFp hFn
              go_wp2_with (fail)
              refine HSM2.out.mono ?_
              rintro e w9 ⟨rfl, n9, rfl⟩
              have HW9 := hd (HW8.out.below (below_drewN0 w8 n9))
              clear HSM2 HW8 HRX8 HRN8
              go_wp2_with (fail)
              exact ⟨⟨k + 1, sb', mb', lb', s', L', F, F, fp', by omega, rfl, by go_num, HW9⟩, by simp [RowKit.intOf]; omega⟩
          · have ht1 : (((a.turn.toNat : Nat) : Int) != 0) = true := bne_iff_ne.2 (by omega)
            go_wp2_with (go_at_call 10; refine (LV.out _ HL1.out.core.at_.below).mono ?_; rintro e w1 ⟨rfl, hl⟩)
            go_ret
            exact ⟨rfl, hl⟩
        have e0 : (a.kind == 0) = false := beq_eq_false_iff_ne.2 hk0
        have e1 : (a.kind == 1) = false := beq_eq_false_iff_ne.2 hk1
        have e2 : (a.kind == 2) = false := beq_eq_false_iff_ne.2 hk2
        have e3 : (a.kind == 3) = false := beq_eq_false_iff_ne.2 hk3
        have HW2 := hd HL1.out.later
        clear HW HX HL1
        go_wp2_with (fail)
        exact ⟨⟨k + 1, sb, mb, lb, s, L, p, pn, fp, by omega, rfl, by go_num, HW2⟩, by simp [RowKit.intOf]; omega⟩
      · obtain rfl : k = l.length := by omega
        go_wp2_with (go_at_call 10; refine (LV.out _ HW.out.core.at_.below).mono ?_; rintro e w1 ⟨rfl, hl⟩)
        go_ret
        exact ⟨rfl, hl⟩
/-- As the row wants it. -/
theorem whole_walk {H : Type} {enc : TypeId × Value → H} (W : World) (hG : Gl W) (v : Value) (ho : ∃ A n c, v = .slice A n c) {d : DataW H} {p : List MemPlace} (h : DataW.Trod enc Tryz.prog W 0 (fun _ => true) true 29 v d p) (hl : Light Tryz.prog 29 d) :
    Calls Tryz.prog 6 #[v] W fun e w' => e = .returned (.bool true) ∧ Below W.heap.size W w' := by
  obtain ⟨A, l, c, rfl, hn, hA⟩ := open_sacts ho h hl
  exact whole_core W hG A c l hA hn
end Go.Proofs.YtopajmbblemopaaGreatDoor
