/-
  Lemmas, joined of the texts WSNil Small5 WSScans XSi0 XSi1 XSi WSLast.
-/
import Derived.Test.YtopajmbblemopaaGreatDoorMB28
import Derived.Test.YtopajmbblemopaaGreatDoorMB26
import Derived.Deep.QuietTactic
import Derived.BigQuiet
import Derived.Test.YtopajmbblemopaaGreatDoorMB10
import Derived.Test.YtopajmbblemopaaGreatDoorProg
import Derived.Test.YtopajmbblemopaaGreatDoorMB1
import Derived.Below
import Derived.Deep.Draws
import Derived.Deep.AppendLies
import Derived.Maps.AppendAt
import Derived.OwnWalk
import Derived.Laws.BytesArg
import Derived.Laws.MakeOwn
import Derived.Laws.OwnMore
import Derived.Deep.OwnRows
import Derived.Tactics
import Derived.Lib.ConvBytes
import Derived.Laws.Slices
import Derived.WalkKit
import Derived.KernelRfl
import Derived.RowKit3
import Derived.Deep.LoopGhost
import Derived.WideLaws
import Derived.Deep.DeepCutAuto
import Derived.Deep.CutBlock
import Derived.Deep.RegionHeld3
import Derived.Laws.Rows
import Derived.Lib.AppendStr
import Derived.ArgAppend
import Derived.Laws.IdiomCopy
import Derived.OrdersHeld
import Derived.Laws.BitsLemmas
import Derived.RowKit
import Derived.Test.YtopajmbblemopaaGreatDoorMB17
import Derived.Test.YtopajmbblemopaaGreatDoorMB16
import Derived.Test.YtopajmbblemopaaGreatDoorWWords
import Derived.Test.YtopajmbblemopaaGreatDoorWLast
import Derived.Test.YtopajmbblemopaaGreatDoorWTab
import Derived.Test.YtopajmbblemopaaGreatDoorWFour
import Derived.Test.YtopajmbblemopaaGreatDoorWQPut
import Derived.Test.YtopajmbblemopaaGreatDoorWApart
import Derived.Test.YtopajmbblemopaaGreatDoorWArr
import Derived.Test.YtopajmbblemopaaGreatDoorWZeros
import Derived.Test.YtopajmbblemopaaGreatDoorWFoot
import Derived.Test.YtopajmbblemopaaGreatDoorWKept
import Derived.Test.YtopajmbblemopaaGreatDoorWShare
import Derived.Test.YtopajmbblemopaaGreatDoorWN
import Derived.Test.YtopajmbblemopaaGreatDoorWFootNe
import Derived.Test.YtopajmbblemopaaGreatDoorWAt
import Derived.Test.YtopajmbblemopaaGreatDoorWEqStruct
import Derived.Test.YtopajmbblemopaaGreatDoorWRepsOne
import Derived.Test.YtopajmbblemopaaGreatDoorWInv
import Derived.Test.YtopajmbblemopaaGreatDoorWInvWords
import Derived.Test.YtopajmbblemopaaGreatDoorWGuard
import Derived.Test.YtopajmbblemopaaGreatDoorWNEv
import Derived.Test.YtopajmbblemopaaGreatDoorWMore
namespace Go.Proofs.YtopajmbblemopaaGreatDoor
set_option linter.unusedVariables false
set_option linter.unusedSimpArgs false
open Go.RowKit
theorem slive_at {w : World} (hG : Gl w) : ∀ w', Below w.heap.size w w' → Calls Tryz.prog 10 #[] w' fun e w2 => e = .returned (.bool true) ∧ Below w.heap.size w w2 := fun w' hb => slive_any w w' hG hb
end Go.Proofs.YtopajmbblemopaaGreatDoor
namespace Go.Proofs.YtopajmbblemopaaGreatDoor
set_option linter.unusedVariables false
set_option linter.unusedSimpArgs false
open Go.RowKit
def SmallPost (l : List SAct) (w : World) (e : Ending) (w' : World) : Prop := ∃ b, e = .returned (.bool b) ∧ (b = true → l.length ≤ 40 ∧ (∀ a ∈ l, a.l.length ≤ 40) ∧ totA l l.length ≤ 6000) ∧ ∃ n, w' = w.drewN n
/-- The world has only drawn. -/
def Dr (w w' : World) : Prop := ∃ n, w' = w.drewN n
theorem Dr.cell {w w' : World} (h : Dr w w') {p : Addr} {v : Value} (hc : w.cell? p = some v) : w'.cell? p = some v := by
  obtain ⟨n, rfl⟩ := h
  exact hc
theorem Dr.more {w w' : World} (h : Dr w w') (n : Nat) : Dr w (w'.drewN n) := by
  obtain ⟨m, rfl⟩ := h
  exact ⟨m + n, World.drewN_drewN _ _ _⟩
theorem Dr.refl (w : World) : Dr w w := ⟨0, rfl⟩
theorem Dr.trans {a b c : World} (h : Dr a b) (k : Dr b c) : Dr a c := by
  obtain ⟨n, rfl⟩ := k
  exact h.more n
set_option maxHeartbeats 1600000 in
theorem small_any (A : Option Addr) (l : List SAct) (cap : Nat) (w : World) (hA : SActsAt w A l) (hlen : l.length ≤ 140737488351232) :
    Calls Tryz.prog 9 #[.slice A l.length cap] w (SmallPost l w) := by
  have HA := hd hA
  clear hA
  go_enter Tryz.func9, Tryz.ntmps9
  go_wp2_with (fail)
  go_loopw [3, 4] (fun n i wr => ∃ k m : Nat, k ≤ l.length ∧ k ≤ 41 ∧ m ≤ 300000000000000 ∧ i = .int .i64 k ∧ n = .int .i64 m ∧ Hd (Dr w wr ∧ (m ≤ 6000 → m = totA l k ∧ ∀ a ∈ l.take k, a.l.length ≤ 40))) (fun _ i _ => 51 - (RowKit.intOf i).toNat)
  case atStart => exact ⟨0, 0, by omega, by omega, by omega, rfl, rfl, hd ⟨Dr.refl _, fun _ => ⟨by simp [totA], fun a ha => by simp at ha⟩⟩⟩
  case round =>
    obtain ⟨k, m, hk, h61, hm, rfl, rfl, HR⟩ := hrel
    by_cases hlt : k < l.length ∧ k ≤ 40 ∧ m ≤ 6000
    · obtain ⟨h1, h2, h3⟩ := hlt
      obtain ⟨b, off, rfl⟩ := HA.out.addr (by intro h; rw [h] at h1; simp at h1)
      obtain ⟨a, ha⟩ : ∃ a, l[k]? = some a := ⟨_, List.getElem?_eq_getElem h1⟩
      have hc : wr.cell? ⟨b, off + k * 6 + 1, none⟩ = some (.slice a.A a.l.length a.c) := by
        have := HR.out.1.cell (HA.out.cell b off k 1 a _ rfl ha rfl)
        rwa [← Nat.add_assoc] at this
      have hal := (HA.out.ok a (List.mem_of_getElem? ha)).len
      have hac := (HA.out.ok a (List.mem_of_getElem? ha)).cap
      have HX := hd (HA.out.row a (List.mem_of_getElem? ha))
      have HT := hd (totA_succ l k a ha)
      have HTK : Hd (l.take (k + 1) = l.take k ++ [a]) := hd (by rw [List.take_add_one, ha]; rfl)
      clear ha
      have HC0 : Hd (wr.cell? ⟨b, off + k * 6 + 1, none⟩ = some (.slice a.A a.l.length a.c)) := hd hc
      go_wp2_with (fail)
      simp only [show decide ((m : Int) ≤ 6000) = true from decide_eq_true (by omega)]
      obtain ⟨wo, rfl⟩ : ∃ wo : World, wo = wr := ⟨_, rfl⟩
      go_loopw [3, 5] (fun n j w2 => ∃ jj m' : Nat, jj ≤ a.l.length ∧ jj ≤ 41 ∧ m' ≤ 300000000000000 ∧ j = .int .i64 jj ∧ n = .int .i64 m' ∧ Hd (Dr wo w2 ∧ (m' ≤ 6000 → m' = totA l k + totM a.l jj))) (fun _ j _ => 51 - (RowKit.intOf j).toNat)
      case atStart => exact ⟨0, m, by omega, by omega, by omega, rfl, rfl, hd ⟨Dr.refl _, fun q => by rw [(HR.out.2 q).1]; simp [totM]⟩⟩
      case round =>
        obtain ⟨jj, m', hj, hj41, hm', rfl, rfl, HS⟩ := hrel
        clear hc
        have hc := HS.out.1.cell HC0.out
        by_cases hlt : jj < a.l.length ∧ jj ≤ 40 ∧ m' ≤ 6000
        · obtain ⟨g1, g2, g3⟩ := hlt
          obtain ⟨b2, off2, hA2⟩ := HX.out.1.addr (by intro h; rw [h] at g1; simp at g1)
          obtain ⟨c, hcc⟩ : ∃ c, a.l[jj]? = some c := ⟨_, List.getElem?_eq_getElem g1⟩
          have x0 := (HR.out.1.trans HS.out.1).cell (HX.out.1.cell b2 off2 jj 0 c _ hA2 hcc rfl)
          have x1 := (HR.out.1.trans HS.out.1).cell (HX.out.1.cell b2 off2 jj 1 c _ hA2 hcc rfl)
          simp only [← Nat.add_assoc, Nat.add_zero] at x0 x1
          rw [hA2] at hc
          obtain ⟨hs1, hs2⟩ := HX.out.2 c (List.mem_of_getElem? hcc)
          have HU := hd (totM_succ a.l jj c hcc)
          clear hcc hA2
          go_wp2_with (fail)
          go_quiet (fail)
          go_wp2_with (fail)
          go_roundw
          case rel => exact ⟨jj + 1, m' + 1 + c.key.size + c.val.size, by omega, by omega, by omega, by go_num, by go_num, hd ⟨HS.out.1.more _, fun q => by rw [HU.out]; have := HS.out.2 g3; unfold szM; omega⟩⟩
          case measure => simp [RowKit.intOf]; omega
        · by_cases g1 : jj < a.l.length
          · by_cases g2 : jj ≤ 40
            · have g3 : ¬ m' ≤ 6000 := fun h => hlt ⟨g1, g2, h⟩
              clear hlt
              by_cases g4 : a.l.length ≤ 40
              · go_wp2_with (fail)
                exact ⟨⟨k + 1, m', by omega, by omega, by omega, by go_num, rfl, hd ⟨HR.out.1.trans HS.out.1, fun q => absurd q g3⟩⟩, by simp [RowKit.intOf]; omega⟩
              · go_wp2_with (fail)
                go_ret
                exact ⟨_, rfl, fun h => by simp at h, HR.out.1.trans HS.out.1⟩
            · clear hlt
              go_wp2_with (fail)
              go_ret
              exact ⟨_, rfl, fun h => by simp at h, HR.out.1.trans HS.out.1⟩
          · obtain rfl : jj = a.l.length := by omega
            clear hlt
            by_cases g2 : a.l.length ≤ 40
            · go_wp2_with (fail)
              go_roundw
              case rel =>
                refine ⟨k + 1, m', by omega, by omega, by omega, by go_num, rfl, hd ⟨HR.out.1.trans HS.out.1, fun q => ⟨by rw [HT.out]; exact HS.out.2 q, fun x hx => ?_⟩⟩⟩
                rw [HTK.out] at hx
                rcases List.mem_append.1 hx with hx | hx
                · exact (HR.out.2 h3).2 x hx
                · rw [List.mem_singleton.1 hx]; exact g2
              case measure => simp [RowKit.intOf]; omega
            · go_wp2_with (fail)
              go_ret
              exact ⟨_, rfl, fun h => by simp at h, HR.out.1.trans HS.out.1⟩
    · by_cases h1 : k < l.length
      · by_cases h2 : k ≤ 40
        · have h3 : ¬ m ≤ 6000 := fun h => hlt ⟨h1, h2, h⟩
          clear hlt
          go_wp2_with (fail)
          all_goals
            go_ret
            exact ⟨_, rfl, fun h => by simp at h <;> omega, HR.out.1⟩
        · clear hlt
          go_wp2_with (fail)
          all_goals
            go_ret
            exact ⟨_, rfl, fun h => by simp at h <;> omega, HR.out.1⟩
      · obtain rfl : k = l.length := by omega
        clear hlt
        by_cases h6 : l.length ≤ 40
        · by_cases h7 : m ≤ 6000
          · go_wp2_with (fail)
            go_ret
            refine ⟨_, rfl, fun _ => ⟨h6, ?_, ?_⟩, HR.out.1⟩
            · have := (HR.out.2 h7).2
              rwa [List.take_length] at this
            · rw [← (HR.out.2 h7).1]; exact h7
          · go_wp2_with (fail)
            go_ret
            exact ⟨_, rfl, fun h => by simp at h <;> omega, HR.out.1⟩
        · go_wp2_with (fail)
          all_goals
            go_ret
            exact ⟨_, rfl, fun h => by simp at h <;> omega, HR.out.1⟩
end Go.Proofs.YtopajmbblemopaaGreatDoor
namespace Go.Proofs.YtopajmbblemopaaGreatDoor
set_option linter.unusedVariables false
set_option linter.unusedSimpArgs false
open Go.RowKit Go.Maps Go.Proofs.YtopajmbblemopaaGreatDoorW.PrintWords Go.Proofs.YtopajmbblemopaaGreatDoorW.PrintLast Go.Proofs.YtopajmbblemopaaGreatDoorW.PrintMore
/-- One act that is written out. -/
theorem act_lit (w : World) (A : Option Addr) (c : Nat) (l : List MC) (hA : ChAt w A l) (hS : Slim l) (hl : l.length ≤ 140737488351232) (hc : l.length ≤ c) :
    SActsAt (w.alloc (.cells #[.int .i64 0, .slice A l.length c, .int .i64 0, .int .i64 0, .int .i64 0, .int .u8 0] 28)) (some ⟨w.heap.size, 0, none⟩) [⟨0, A, c, l, 0, 0, 0, 0⟩] := by
  have hX : Blk (w.alloc (.cells #[.int .i64 0, .slice A l.length c, .int .i64 0, .int .i64 0, .int .i64 0, .int .u8 0] 28)) w.heap.size [.int .i64 0, .slice A l.length c, .int .i64 0, .int .i64 0, .int .i64 0, .int .u8 0] 28 := Blk.new _ _ _
  refine ⟨fun a ha => ?_, fun _ => ⟨_, _, rfl⟩, fun b off i j a v hA hi hj => ?_, fun a ha => ?_⟩
  · rw [List.mem_singleton.1 ha]
    exact ⟨by show (-9223372036854775808 : Int) ≤ 0; decide, by show (0 : Int) ≤ 9223372036854775807; decide, hl, hc⟩
  · injection hA with hA
    injection hA with h1 h2
    subst h1 h2
    cases i with
    | succ i => simp at hi
    | zero =>
      injection hi with hi
      subst hi
      rw [show 0 + (0 * 6 + j) = j by omega]
      exact (hX.cell j).trans hj
  · rw [List.mem_singleton.1 ha]
    exact ⟨hA.below ((Below.refl _ _).alloc (Nat.le_refl _) _), hS⟩
theorem small_one {l : List MC} {A : Option Addr} {c : Nat} {w1 : World} {e : Ending} {w' : World} (h : SmallPost [⟨0, A, c, l, 0, 0, 0, 0⟩] w1 e w') : ∃ b, e = .returned (.bool b) ∧ (b = true → l.length ≤ 40 ∧ totM l l.length ≤ 6000) ∧ ∃ n, w' = w1.drewN n := by
  obtain ⟨b, he, hb, hn⟩ := h
  refine ⟨b, he, fun q => ?_, hn⟩
  obtain ⟨_, h2, h3⟩ := hb q
  refine ⟨h2 ⟨0, A, c, l, 0, 0, 0, 0⟩ (by simp), ?_⟩
  simpa [totA] using h3
end Go.Proofs.YtopajmbblemopaaGreatDoor
namespace Go.Proofs.YtopajmbblemopaaGreatDoor.XSi
open Go.RowKit Go.Proofs.YtopajmbblemopaaGreatDoorW.PrintWords Go.Proofs.YtopajmbblemopaaGreatDoorW.PrintLast Go.Proofs.YtopajmbblemopaaGreatDoorW.PrintMore
attribute [local go_sem] max2_int min2_int max_two min_two max_three min_three max_four min_four   -- for this text's walks alone
set_option linter.unusedVariables false
set_option linter.unusedSimpArgs false



def errW : Option Int → Value
  | none => .nilIface
  | some c => .iface 0 (.int .i64 c)
theorem errW_none : errW none = .nilIface := rfl
theorem errW_some (c : Int) : errW (some c) = .iface 0 (.int .i64 c) := rfl

-- the values' own types

end Go.Proofs.YtopajmbblemopaaGreatDoor.XSi
namespace Go.Proofs.YtopajmbblemopaaGreatDoor.XSi
open Go.RowKit Go.Proofs.YtopajmbblemopaaGreatDoorW.PrintWords Go.Proofs.YtopajmbblemopaaGreatDoorW.PrintLast Go.Proofs.YtopajmbblemopaaGreatDoorW.PrintMore
attribute [local go_sem] max2_int min2_int max_two min_two max_three min_three max_four min_four   -- for this text's walks alone
set_option linter.unusedVariables false
set_option linter.unusedSimpArgs false

/-! ### furlongref05_Is: function 19 -/
def furlongref05_Is.f (a0_0 : ByteArray) (a0_1 : ByteArray) (a0_2 : Bool) : Option (Bool) := if (a0_0.size : Int) ≥ 1 then (if (a0_0.size : Int) ≤ 128 then (if (a0_1.size : Int) ≤ 262144 then (if a0_2 = true then (some (a0_1.toList == ([] : List UInt8))) else (some true)) else (some false)) else (some false)) else (some false)
set_option maxHeartbeats 8000000 in
set_option maxRecDepth 100000 in
theorem furlongref05_Is.calls (a0_0 : ByteArray) (a0_1 : ByteArray) (a0_2 : Bool) (r : Bool) (w : World) (h : furlongref05_Is.f a0_0 a0_1 a0_2 = some r) :
    Calls Tryz.prog 19 #[.agg #[.string a0_0, .string a0_1, .bool a0_2]] w fun e w' => e = .returned (.bool r) ∧ Below w.heap.size w w' := by
  have hu51 := Tryz.underlying51
  have HB := Aside0.mk (Below.refl w.heap.size w)
  have H : (if (a0_0.size : Int) ≥ 1 then (if (a0_0.size : Int) ≤ 128 then (if (a0_1.size : Int) ≤ 262144 then (if a0_2 = true then (some (a0_1.toList == ([] : List UInt8))) else (some true)) else (some false)) else (some false)) else (some false)) = some r := h
  clear h
  by_cases c2 : (a0_0.size : Int) ≥ 1
  · rw [if_pos c2] at H
    have c2b0 : decide (1 ≤ (a0_0.size : Int)) = true := decide_eq_true c2
    have c2b1 : decide (1 ≤ a0_0.size) = true := decide_eq_true (by omega)
    clear c2
    by_cases c3 : (a0_0.size : Int) ≤ 128
    · rw [if_pos c3] at H
      have c3b0 : decide ((a0_0.size : Int) ≤ 128) = true := decide_eq_true c3
      have c3b1 : decide (a0_0.size ≤ 128) = true := decide_eq_true (by omega)
      clear c3
      by_cases c4 : (a0_1.size : Int) ≤ 262144
      · rw [if_pos c4] at H
        have c4b0 : decide ((a0_1.size : Int) ≤ 262144) = true := decide_eq_true c4
        have c4b1 : decide (a0_1.size ≤ 262144) = true := decide_eq_true (by omega)
        clear c4
        by_cases c5 : a0_2 = true
        · subst c5
          have H1 : (some (a0_1.toList == ([] : List UInt8))) = some r := by rw [if_pos rfl] at H; exact H
          clear H
          have H := H1
          clear H1
          obtain rfl := Option.some.inj H
          go_enter Tryz.func19, Tryz.ntmps19
          go_wp2_with (first | ((with_reducible refine gate_dst (N := 1) rfl ?_); (try (refine gate_guard (by rfl) ?_; dsimp only)); refine box_event ?hg (N := 1) ?hd (cs := #[.string a0_0, .string a0_1, .bool true]) (t := 51) ?hr ?_; (case hd => rfl); (case hg => rfl); (case hr => first | (go_simp; done) | (go_simp; rfl)); intro gb101 hg w6 hbox hb; have n0_ := Aside0.mk (below_step (by repeat (first | (with_reducible first | exact HB.out | apply below_alloc | apply pw_below_drewN | apply below_drew1) | exact HB.out)) hb); have n1_ := Aside0.mk (hbox); have n2_ := Aside0.mk ((by rw [hg]; exact (below_size (by repeat (first | (with_reducible first | exact HB.out | apply below_alloc | apply pw_below_drewN | apply below_drew1) | exact HB.out))) : w.heap.size ≤ gb101)); have n3_ := Aside0.mk ((by rw [hg]; exact (below_size (by repeat (first | (with_reducible first | exact HB.out | apply below_alloc | apply pw_below_drewN | apply below_drew1) | exact HB.out))) : w.heap.size ≤ gb101)); clear HB; have HB := n0_; have BK101 := n1_; have GW101 := n2_; have GE101 := n3_; clear n0_ n1_ n2_ n3_; clear hb hbox hg; have hcz7_0 : w6.cell? ⟨gb101, 0, none⟩ = some (.string a0_0) := (blk_cell BK101.out 0).trans rfl; have hcz7_1 : w6.cell? ⟨gb101, 1, none⟩ = some (.string a0_1) := (blk_cell BK101.out 1).trans rfl; have hcz7_2 : w6.cell? ⟨gb101, 2, none⟩ = some (.bool true) := (blk_cell BK101.out 2).trans rfl; have hfz7_0 := blk_frozen BK101.out 0; have hfz7_1 := blk_frozen BK101.out 1; have hfz7_2 := blk_frozen BK101.out 2))
          go_ret
          exact ⟨by first | rfl | (simp [errW_none, errW_some] <;> rfl) | (simp [*, errW_none, errW_some] <;> rfl), by repeat (first | (with_reducible first | exact HB.out | apply below_alloc | apply pw_below_drewN | apply below_drew1 | refine below_set ?_ GE101.out) | exact HB.out)⟩
        · replace c5 := Bool.eq_false_iff.mpr c5
          subst c5
          have H1 : (some true) = some r := by rw [if_neg (show ¬ (false = true) by decide)] at H; exact H
          clear H
          have H := H1
          clear H1
          obtain rfl := Option.some.inj H
          go_enter Tryz.func19, Tryz.ntmps19
          go_wp2_with (first | ((with_reducible refine gate_dst (N := 1) rfl ?_); (try (refine gate_guard (by rfl) ?_; dsimp only)); refine box_event ?hg (N := 1) ?hd (cs := #[.string a0_0, .string a0_1, .bool false]) (t := 51) ?hr ?_; (case hd => rfl); (case hg => rfl); (case hr => first | (go_simp; done) | (go_simp; rfl)); intro gb101 hg w8 hbox hb; have n0_ := Aside0.mk (below_step (by repeat (first | (with_reducible first | exact HB.out | apply below_alloc | apply pw_below_drewN | apply below_drew1) | exact HB.out)) hb); have n1_ := Aside0.mk (hbox); have n2_ := Aside0.mk ((by rw [hg]; exact (below_size (by repeat (first | (with_reducible first | exact HB.out | apply below_alloc | apply pw_below_drewN | apply below_drew1) | exact HB.out))) : w.heap.size ≤ gb101)); have n3_ := Aside0.mk ((by rw [hg]; exact (below_size (by repeat (first | (with_reducible first | exact HB.out | apply below_alloc | apply pw_below_drewN | apply below_drew1) | exact HB.out))) : w.heap.size ≤ gb101)); clear HB; have HB := n0_; have BK101 := n1_; have GW101 := n2_; have GE101 := n3_; clear n0_ n1_ n2_ n3_; clear hb hbox hg; have hcz9_0 : w8.cell? ⟨gb101, 0, none⟩ = some (.string a0_0) := (blk_cell BK101.out 0).trans rfl; have hcz9_1 : w8.cell? ⟨gb101, 1, none⟩ = some (.string a0_1) := (blk_cell BK101.out 1).trans rfl; have hcz9_2 : w8.cell? ⟨gb101, 2, none⟩ = some (.bool false) := (blk_cell BK101.out 2).trans rfl; have hfz9_0 := blk_frozen BK101.out 0; have hfz9_1 := blk_frozen BK101.out 1; have hfz9_2 := blk_frozen BK101.out 2))
          go_ret
          exact ⟨by first | rfl | (simp [errW_none, errW_some] <;> rfl) | (simp [*, errW_none, errW_some] <;> rfl), by repeat (first | (with_reducible first | exact HB.out | apply below_alloc | apply pw_below_drewN | apply below_drew1 | refine below_set ?_ GE101.out) | exact HB.out)⟩
      · rw [if_neg c4] at H
        have c4b0 : decide ((a0_1.size : Int) ≤ 262144) = false := decide_eq_false c4
        have c4b1 : decide (a0_1.size ≤ 262144) = false := decide_eq_false (by omega)
        clear c4
        obtain rfl := Option.some.inj H
        go_enter Tryz.func19, Tryz.ntmps19
        go_wp2_with (first | ((with_reducible refine gate_dst (N := 1) rfl ?_); (try (refine gate_guard (by rfl) ?_; dsimp only)); refine box_event ?hg (N := 1) ?hd (cs := #[.string a0_0, .string a0_1, .bool a0_2]) (t := 51) ?hr ?_; (case hd => rfl); (case hg => rfl); (case hr => first | (go_simp; done) | (go_simp; rfl)); intro gb101 hg w10 hbox hb; have n0_ := Aside0.mk (below_step (by repeat (first | (with_reducible first | exact HB.out | apply below_alloc | apply pw_below_drewN | apply below_drew1) | exact HB.out)) hb); have n1_ := Aside0.mk (hbox); have n2_ := Aside0.mk ((by rw [hg]; exact (below_size (by repeat (first | (with_reducible first | exact HB.out | apply below_alloc | apply pw_below_drewN | apply below_drew1) | exact HB.out))) : w.heap.size ≤ gb101)); have n3_ := Aside0.mk ((by rw [hg]; exact (below_size (by repeat (first | (with_reducible first | exact HB.out | apply below_alloc | apply pw_below_drewN | apply below_drew1) | exact HB.out))) : w.heap.size ≤ gb101)); clear HB; have HB := n0_; have BK101 := n1_; have GW101 := n2_; have GE101 := n3_; clear n0_ n1_ n2_ n3_; clear hb hbox hg; have hcz11_0 : w10.cell? ⟨gb101, 0, none⟩ = some (.string a0_0) := (blk_cell BK101.out 0).trans rfl; have hcz11_1 : w10.cell? ⟨gb101, 1, none⟩ = some (.string a0_1) := (blk_cell BK101.out 1).trans rfl; have hcz11_2 : w10.cell? ⟨gb101, 2, none⟩ = some (.bool a0_2) := (blk_cell BK101.out 2).trans rfl; have hfz11_0 := blk_frozen BK101.out 0; have hfz11_1 := blk_frozen BK101.out 1; have hfz11_2 := blk_frozen BK101.out 2))
        go_ret
        exact ⟨by first | rfl | (simp [errW_none, errW_some] <;> rfl) | (simp [*, errW_none, errW_some] <;> rfl), by repeat (first | (with_reducible first | exact HB.out | apply below_alloc | apply pw_below_drewN | apply below_drew1 | refine below_set ?_ GE101.out) | exact HB.out)⟩
    · rw [if_neg c3] at H
      have c3b0 : decide ((a0_0.size : Int) ≤ 128) = false := decide_eq_false c3
      have c3b1 : decide (a0_0.size ≤ 128) = false := decide_eq_false (by omega)
      clear c3
      obtain rfl := Option.some.inj H
      go_enter Tryz.func19, Tryz.ntmps19
      go_wp2_with (first | ((with_reducible refine gate_dst (N := 1) rfl ?_); (try (refine gate_guard (by rfl) ?_; dsimp only)); refine box_event ?hg (N := 1) ?hd (cs := #[.string a0_0, .string a0_1, .bool a0_2]) (t := 51) ?hr ?_; (case hd => rfl); (case hg => rfl); (case hr => first | (go_simp; done) | (go_simp; rfl)); intro gb101 hg w12 hbox hb; have n0_ := Aside0.mk (below_step (by repeat (first | (with_reducible first | exact HB.out | apply below_alloc | apply pw_below_drewN | apply below_drew1) | exact HB.out)) hb); have n1_ := Aside0.mk (hbox); have n2_ := Aside0.mk ((by rw [hg]; exact (below_size (by repeat (first | (with_reducible first | exact HB.out | apply below_alloc | apply pw_below_drewN | apply below_drew1) | exact HB.out))) : w.heap.size ≤ gb101)); have n3_ := Aside0.mk ((by rw [hg]; exact (below_size (by repeat (first | (with_reducible first | exact HB.out | apply below_alloc | apply pw_below_drewN | apply below_drew1) | exact HB.out))) : w.heap.size ≤ gb101)); clear HB; have HB := n0_; have BK101 := n1_; have GW101 := n2_; have GE101 := n3_; clear n0_ n1_ n2_ n3_; clear hb hbox hg; have hcz13_0 : w12.cell? ⟨gb101, 0, none⟩ = some (.string a0_0) := (blk_cell BK101.out 0).trans rfl; have hcz13_1 : w12.cell? ⟨gb101, 1, none⟩ = some (.string a0_1) := (blk_cell BK101.out 1).trans rfl; have hcz13_2 : w12.cell? ⟨gb101, 2, none⟩ = some (.bool a0_2) := (blk_cell BK101.out 2).trans rfl; have hfz13_0 := blk_frozen BK101.out 0; have hfz13_1 := blk_frozen BK101.out 1; have hfz13_2 := blk_frozen BK101.out 2))
      go_ret
      exact ⟨by first | rfl | (simp [errW_none, errW_some] <;> rfl) | (simp [*, errW_none, errW_some] <;> rfl), by repeat (first | (with_reducible first | exact HB.out | apply below_alloc | apply pw_below_drewN | apply below_drew1 | refine below_set ?_ GE101.out) | exact HB.out)⟩
  · rw [if_neg c2] at H
    have c2b0 : decide (1 ≤ (a0_0.size : Int)) = false := decide_eq_false c2
    have c2b1 : decide (1 ≤ a0_0.size) = false := decide_eq_false (by omega)
    clear c2
    obtain rfl := Option.some.inj H
    go_enter Tryz.func19, Tryz.ntmps19
    go_wp2_with (first | ((with_reducible refine gate_dst (N := 1) rfl ?_); (try (refine gate_guard (by rfl) ?_; dsimp only)); refine box_event ?hg (N := 1) ?hd (cs := #[.string a0_0, .string a0_1, .bool a0_2]) (t := 51) ?hr ?_; (case hd => rfl); (case hg => rfl); (case hr => first | (go_simp; done) | (go_simp; rfl)); intro gb101 hg w14 hbox hb; have n0_ := Aside0.mk (below_step (by repeat (first | (with_reducible first | exact HB.out | apply below_alloc | apply pw_below_drewN | apply below_drew1) | exact HB.out)) hb); have n1_ := Aside0.mk (hbox); have n2_ := Aside0.mk ((by rw [hg]; exact (below_size (by repeat (first | (with_reducible first | exact HB.out | apply below_alloc | apply pw_below_drewN | apply below_drew1) | exact HB.out))) : w.heap.size ≤ gb101)); have n3_ := Aside0.mk ((by rw [hg]; exact (below_size (by repeat (first | (with_reducible first | exact HB.out | apply below_alloc | apply pw_below_drewN | apply below_drew1) | exact HB.out))) : w.heap.size ≤ gb101)); clear HB; have HB := n0_; have BK101 := n1_; have GW101 := n2_; have GE101 := n3_; clear n0_ n1_ n2_ n3_; clear hb hbox hg; have hcz15_0 : w14.cell? ⟨gb101, 0, none⟩ = some (.string a0_0) := (blk_cell BK101.out 0).trans rfl; have hcz15_1 : w14.cell? ⟨gb101, 1, none⟩ = some (.string a0_1) := (blk_cell BK101.out 1).trans rfl; have hcz15_2 : w14.cell? ⟨gb101, 2, none⟩ = some (.bool a0_2) := (blk_cell BK101.out 2).trans rfl; have hfz15_0 := blk_frozen BK101.out 0; have hfz15_1 := blk_frozen BK101.out 1; have hfz15_2 := blk_frozen BK101.out 2))
    go_ret
    exact ⟨by first | rfl | (simp [errW_none, errW_some] <;> rfl) | (simp [*, errW_none, errW_some] <;> rfl), by repeat (first | (with_reducible first | exact HB.out | apply below_alloc | apply pw_below_drewN | apply below_drew1 | refine below_set ?_ GE101.out) | exact HB.out)⟩

end Go.Proofs.YtopajmbblemopaaGreatDoor.XSi
namespace Go.Proofs.YtopajmbblemopaaGreatDoor.XSi
open Go.RowKit Go.Proofs.YtopajmbblemopaaGreatDoorW.PrintWords Go.Proofs.YtopajmbblemopaaGreatDoorW.PrintLast Go.Proofs.YtopajmbblemopaaGreatDoorW.PrintMore
attribute [local go_sem] max2_int min2_int max_two min_two max_three min_three max_four min_four   -- for this text's walks alone
set_option linter.unusedVariables false
set_option linter.unusedSimpArgs false

end Go.Proofs.YtopajmbblemopaaGreatDoor.XSi
namespace Go.Proofs.YtopajmbblemopaaGreatDoor
set_option linter.unusedVariables false
set_option linter.unusedSimpArgs false
open Go.RowKit Go.Maps Go.Proofs.YtopajmbblemopaaGreatDoorW.PrintWords Go.Proofs.YtopajmbblemopaaGreatDoorW.PrintLast Go.Proofs.YtopajmbblemopaaGreatDoorW.PrintMore
theorem lastC_snoc (key : Txt) : ∀ (l : List Chn) (c : Chn) (a : Txt × Bool), lastC key (l ++ [c]) a = if c.key = key then (c.val, !c.gone) else lastC key l a
  | [], c, a => rfl
  | d :: l, c, a => by
    rw [List.cons_append, lastC, lastC_snoc key l c, lastC]
theorem ris_eq (k v : ByteArray) (g : Bool) : XSi.furlongref05_Is.f k v g = some (isC ⟨bsL k, g, bsL v⟩) := by
  have zk := bs_size k
  have zv := bs_size v
  unfold XSi.furlongref05_Is.f isC
  simp only
  by_cases h0 : 1 ≤ (bsL k).length
  · rw [if_pos (by omega), decide_eq_true h0, Bool.true_and]
    by_cases h1 : (bsL k).length ≤ 128
    · rw [if_pos (by omega), decide_eq_true h1, Bool.true_and]
      by_cases h2 : (bsL v).length ≤ 262144
      · rw [if_pos (by omega), decide_eq_true h2, Bool.true_and]
        cases g with
        | true =>
          rw [if_pos rfl, bs_toList]
          congr 1
          cases bsL v <;> rfl
        | false => rfl
      · rw [if_neg (by omega), decide_eq_false h2]
        rfl
    · rw [if_neg (by omega), decide_eq_false h1]
      rfl
  · rw [if_neg (by omega), decide_eq_false h0]
    rfl
theorem ris_call (x : MC) (w : World) : Calls Tryz.prog 19 #[.agg #[.string x.key, .string x.val, .bool x.gone]] w fun e w' => e = .returned (.bool (isC x.toC)) ∧ Below w.heap.size w w' :=
  XSi.furlongref05_Is.calls x.key x.val x.gone _ w (ris_eq x.key x.val x.gone)
theorem own_new2 (room : Int) (w0 w : World) (hb : Below w0.heap.size w0 w) (h0 : 0 ≤ room) (h1 : room ≤ 4194304) :
    Calls Tryz.prog 11 #[.int .i64 room] w fun e w' => ∃ b fp, e = .returned (.tuple #[.pointer (some ⟨b, 0, none⟩), .int .i64 0]) ∧ MineL w0 w' b (RS.new room) fp ∧ Below w.heap.size w w' ∧ ∀ k ∈ fp, w.heap.size ≤ k := by
  refine (new_any room w h0 h1).mono ?_
  rintro e w' ⟨b, fp, rfl, hR, hC, hf⟩
  have hs := hb.size
  have hbw := hC.below (Nat.le_refl _) (fun _ q => q.elim)
  exact ⟨b, fp, rfl, ⟨hb.trans (hbw.mono hs), hR, fun k hk => by have := hf k hk; omega⟩, hbw, hf⟩
theorem MineL.others {w0 w w' : World} {b : Nat} {s : RS} {fp : List Nat} {S : Nat → Prop} (h : MineL w0 w b s fp) (c : Chg S w w') (hlow : ∀ k, S k → w0.heap.size ≤ k) (hS : ∀ k, S k → k ∉ fp) : MineL w0 w' b s fp :=
  ⟨h.below.trans (c.below h.below.size hlow), h.at_.chg c (fun k hk q => hS k q hk), h.low⟩
/-- Two shelves apart. -/
def ShApart (sb mb lb : Nat) (fp : List Nat) (tb nb kb : Nat) (fq : List Nat) : Prop := ∀ k, Foot sb mb lb fp k → ¬ Foot tb nb kb fq k
structure OneAt (w0 w : World) (b sb mb lb : Nat) (l : List MC) (k : Nat) (s : RS) (L : LS) (recs : List Txt) (fp : List Nat) : Prop where
  at_ : ShAt w0 w b sb mb lb s L (doAll [] ((l.take k).map MC.toC)) fp
  clean : SClean s L [] recs (doAll [] ((l.take k).map MC.toC))
  len : recs.length ≤ k
  left : s.left = -1
  room : s.room = 4194304
  used : s.used ≤ 140 + (totM l k + 240 * k : Nat)
theorem OneAt.below {w0 w w' : World} {b sb mb lb : Nat} {l : List MC} {k : Nat} {s : RS} {L : LS} {recs : List Txt} {fp : List Nat} (h : OneAt w0 w b sb mb lb l k s L recs fp) (hb : Below w.heap.size w w') : OneAt w0 w' b sb mb lb l k s L recs fp :=
  ⟨h.at_.below_ hb, h.clean, h.len, h.left, h.room, h.used⟩
theorem OneAt.next {w0 w : World} {b sb mb lb : Nat} {l : List MC} {k : Nat} {s : RS} {L : LS} {recs : List Txt} {fp : List Nat} (hG : Gl w0) (h : OneAt w0 w b sb mb lb l k s L recs fp) (hk : l.length ≤ 40) (ht : totM l l.length ≤ 6000) (c : MC) (hc : l[k]? = some c) (hi : isC c.toC = true) (hs : c.key.size ≤ maxLen ∧ c.val.size ≤ maxLen) :
    Calls Tryz.prog 14 #[.pointer (some ⟨sb, 0, none⟩), .slice (some ⟨w.heap.size, 0, none⟩) 1 1] (w.alloc (.cells #[.string c.key, .string c.val, .bool c.gone] 51)) fun r w' => r = .returned (.int .i64 0) ∧ ∃ s' L' recs' fp', OneAt w0 w' b sb mb lb l (k + 1) s' L' recs' fp' ∧ Chg (Foot sb mb lb fp) w w' ∧ (∀ k, Foot sb mb lb fp' k → Foot sb mb lb fp k ∨ w.heap.size ≤ k) := by
  have hts := totM_succ l k c hc
  have hkl : k + 1 ≤ l.length := (List.getElem?_eq_some_iff.1 hc).1
  have htm := totM_mono l (k + 1) l.length hkl
  have hu := h.used
  have hlen := h.len
  have hco : costC [c.toC] = c.key.size + c.val.size + 100 := by
    show (bsL c.key).length + (bsL c.val).length + 100 + 0 = _
    rw [bs_size, bs_size]
  unfold szM at hts
  have hplen : (doAll [] ((l.take k).map MC.toC)).length ≤ 40 := by
    have := lenP_all ((l.take k).map MC.toC) []
    rw [List.length_map, List.length_take] at this
    simp only [List.length_nil] at this
    omega
  obtain ⟨s', L', p', er, recs', e, hs', hr, he, hro, hus, hle, hcp, hlp, hor⟩ := h.clean.commit_any h.left (l := [c.toC]) (by simp) (by omega) (by rw [free_eq, h.room]; omega) (by omega)
  obtain ⟨rfl, rfl⟩ := hor (fun x hx => by rw [List.mem_singleton.1 hx]; exact hi)
  have hst : doAll (doAll [] ((l.take k).map MC.toC)) [c.toC] = doAll [] ((l.take (k + 1)).map MC.toC) := by
    rw [List.take_add_one, hc, List.map_append, do_app]
    rfl
  rw [hst] at e hs'
  refine (commit_lit hG h.at_ h.clean.lok [c] (by simp) (fun x hx => by rw [List.mem_singleton.1 hx]; exact hs) (by omega) (by show costC [c.toC] ≤ _; omega) e).mono ?_
  rintro r w' ⟨rfl, fp', hS, hch, hf⟩
  exact ⟨rfl, s', L', recs', fp', ⟨hS, hs', by omega, hle, hro.trans h.room, by omega⟩, hch, Foot.step hf⟩
theorem ShApart.next {w0 w : World} {b sb mb lb : Nat} {s : RS} {L : LS} {p : Sh} {fp : List Nat} {tb nb kb : Nat} {fq fq' : List Nat} (h : ShApart sb mb lb fp tb nb kb fq) (hs : ShAt w0 w b sb mb lb s L p fp) (f : ∀ k, Foot tb nb kb fq' k → Foot tb nb kb fq k ∨ w.heap.size ≤ k) : ShApart sb mb lb fp tb nb kb fq' := fun k hk q => by
  have := hs.lt k hk
  rcases f k q with r | r
  · exact h k hk r
  · omega
set_option maxRecDepth 20000 in
set_option maxHeartbeats 3200000 in
theorem last_core (w : World) (hG : Gl w) (A : Option Addr) (c : Nat) (l : List MC) (key : ByteArray) (hA : ChAt w A l) (hS : Slim l) (hlen : l.length ≤ 140737488351232) (hc : l.length ≤ c) (hk : key.size ≤ 140737488351232) :
    Calls Tryz.prog 4 #[.slice A l.length c, .string key] w fun e w' => e = .returned (.bool true) ∧ Below w.heap.size w w' := by
  have LV := hd (slive_at hG)
  have HG := hd hG
  have HA := hd hA
  have HSM := hd (small_any (some ⟨w.heap.size, 0, none⟩) [⟨0, A, c, l, 0, 0, 0, 0⟩] 1 _ (act_lit w A c l hA hS hlen hc) (by simp))
  have hb1 : Below w.heap.size w (w.alloc (.cells #[.int .i64 0, .slice A l.length c, .int .i64 0, .int .i64 0, .int .i64 0, .int .u8 0] 28)) := (Below.refl _ _).alloc (Nat.le_refl _) _
  have HB1 := hd hb1
  clear hG hA hb1
  go_enter Tryz.func4, Tryz.ntmps4
  go_upto_region 1 with (fail)
  go_cut [28] (fun v wx => ∃ q : Bool, v = .bool q ∧ Hd (Below w.heap.size w wx ∧ (q = false → l.length ≤ 40 ∧ totM l l.length ≤ 6000 ∧ key.size ≤ 6000)))
  case first =>
    go_wp2_with (fail)
    refine HSM.out.mono ?_
    intro e w1 hpost
    obtain ⟨b, rfl, hb, n1, rfl⟩ := small_one hpost
    have HB := hd hb
    have HB2 := hd (HB1.out.trans ((below_drewN0 _ n1).mono HB1.out.size))
    clear hb HSM hpost HB1
    generalize ((w.alloc (.cells #[.int .i64 0, .slice A l.length c, .int .i64 0, .int .i64 0, .int .i64 0, .int .u8 0] 28)).drewN n1) = w1 at *
    cases b with
    | false =>
      go_wp2_with (fail)
      go_meet
      exact ⟨true, rfl, hd ⟨HB2.out, fun q => by cases q⟩⟩
    | true =>
      go_wp2_with (fail)
      all_goals
        go_meet
        refine ⟨_, rfl, hd ⟨HB2.out, fun q => ?_⟩⟩
        first
          | (cases q; done)
          | (have q1 := of_decide_eq_false q
             exact ⟨(HB.out trivial).1, (HB.out trivial).2, by omega⟩)
          | exact ⟨(HB.out trivial).1, (HB.out trivial).2, by omega⟩
  obtain ⟨q, rfl, HQ⟩ := hcut
  clear HSM HB1
  cases q with
  | true =>
    go_wp2_with (go_at_call 10; refine (LV.out _ HQ.out.1).mono ?_; rintro e w2 ⟨rfl, hl⟩)
    go_ret
    exact ⟨rfl, hl⟩
  | false =>
    obtain ⟨hl40, htot, hksz⟩ := HQ.out.2 rfl
    have HB3 := hd HQ.out.1
    clear HQ
    go_wp2_with (fail)
    go_loopw [5] (fun i wr => ∃ k : Nat, k ≤ l.length ∧ i = .int .i64 k ∧ Hd (Below w.heap.size w wr ∧ ∀ x ∈ l.take k, isC x.toC = true)) (fun i _ => l.length - (RowKit.intOf i).toNat)
    case atStart => exact ⟨0, by omega, rfl, hd ⟨HB3.out, fun x hx => by simp at hx⟩⟩
    case round =>
      obtain ⟨k, hkl, rfl, HL⟩ := hrel
      by_cases hlt : k < l.length
      · obtain ⟨b2, off2, hA2⟩ := HA.out.addr (by intro h; rw [h] at hlt; simp at hlt)
        obtain ⟨x, hx⟩ : ∃ x, l[k]? = some x := ⟨_, List.getElem?_eq_getElem hlt⟩
        have hcell : ∀ j v, x.cells[j]? = some v → wr.cell? ⟨b2, off2 + (k * 3 + j), none⟩ = some v := fun j v hj => by
          have h1 := HA.out.cell b2 off2 k j x v hA2 hx hj
          exact (HL.out.1.cell (World.block_lt_of_cell? w _ h1)).trans h1
        have x0 := hcell 0 _ rfl
        have x1 := hcell 1 _ rfl
        have x2 := hcell 2 _ rfl
        simp only [← Nat.add_assoc, Nat.add_zero] at x0 x1 x2
        have HT : Hd (l.take (k + 1) = l.take k ++ [x]) := hd (by rw [List.take_add_one, hx]; rfl)
        have HI := hd (ris_call x wr)
        obtain ⟨bi, hbi⟩ : ∃ bi, isC x.toC = bi := ⟨_, rfl⟩
        rw [hbi] at HI
        have HBI := hd hbi
        subst hA2
        clear hx hcell hbi
        cases bi with
        | true =>
          go_wp2_with (fail)
          refine HI.out.mono ?_
          rintro e w4 ⟨rfl, hb4⟩
          have HB4 := hd hb4
          clear hb4 HI
          go_wp2_with (fail)
          go_roundw
          case rel =>
            refine ⟨k + 1, by omega, by go_num, hd ⟨HL.out.1.trans (HB4.out.mono HL.out.1.size), fun y hy => ?_⟩⟩
            rw [HT.out] at hy
            rcases List.mem_append.1 hy with hy | hy
            · exact HL.out.2 y hy
            · rw [List.mem_singleton.1 hy]; exact HBI.out
          case measure => simp [RowKit.intOf]; omega
        | false =>
          go_wp2_with (fail)
          refine HI.out.mono ?_
          rintro e w4 ⟨rfl, hb4⟩
          have HB4 := hd (HL.out.1.trans (hb4.mono HL.out.1.size))
          clear hb4 HI
          go_wp2_with (go_at_call 10; refine (LV.out _ HB4.out).mono ?_; rintro e w2 ⟨rfl, hl⟩)
          go_ret
          exact ⟨rfl, hl⟩
      · obtain rfl : k = l.length := by omega
        have hval := HL.out.2
        rw [List.take_length] at hval
        have HVAL := hd hval
        have HB5 := hd HL.out.1
        obtain ⟨s1, L1, o1, c1, f1, p1, e1, _, l1, m1, u1⟩ := shelf_new 4194304 (by omega) (by omega)
        have hcl := cost_tot l
        obtain ⟨s2, L2, p2, er, recs2, hcm, c2, _, _, _, _, _, _, _, hor⟩ := c1.commit_any l1 (l := l.map MC.toC) (by rw [List.length_map]; omega) (by omega) (by rw [free_eq, m1]; omega) (by decide)
        obtain ⟨rfl, rfl⟩ := hor (all_of hval)
        have HCM := hd hcm
        have HC2 := hd c2
        have HC1 := hd c1
        have HO := hd (fun (w' : World) (b : Nat) (fp : List Nat) (h : MineL w w' b (RS.new 4194304) fp) => own_sopen (p := []) HG.out h o1 f1 p1 rfl (by decide))
        have HN := hd (fun w' hb => own_new2 4194304 w w' hb (by decide) (by decide))
        have HCL : Hd (costC (l.map MC.toC) ≤ 4194304) := hd (by omega)
        clear o1 f1 p1 hcm c2 c1 hval HL hcl hor e1
        go_wp2_with (fail)
        refine (HN.out _ HB5.out).mono ?_
        rintro e w2 ⟨br, fr, rfl, hm2, _, _⟩
        have HM2 := hd hm2
        clear hm2
        go_wp2_with (fail)
        refine (HN.out _ HM2.out.below).mono ?_
        rintro e w3 ⟨bq, fq, rfl, hm3, hb3, hf3⟩
        have HM3 := hd hm3
        have HMR := hd (HM2.out.below_ hb3)
        have HDJ : Hd (∀ k ∈ fr, k ∉ fq) := hd fun k hk q => by
          have h1 := HM2.out.lt k hk
          have h2 := hf3 k q
          omega
        clear hm3 hb3 hf3 HN HM2
        go_wp2_with (go_at_call 12; refine (num5_any _ _).mono ?_; rintro e w' ⟨rfl, rfl⟩)
        refine (HO.out _ br fr HMR.out).mono ?_
        rintro e w4 ⟨fs, sb, mb, lb, rfl, hs4, hc4, hf4⟩
        have HS4 := hd hs4
        have HMQ := hd (HM3.out.others hc4 HMR.out.low (fun k hk => HDJ.out k hk))
        have HD4 : Hd (∀ k, Foot sb mb lb fs k → k ∉ fq) := hd fun k hk q => by
          rcases hf4 k hk with r | r
          · exact HDJ.out k r q
          · have := HM3.out.lt k q
            omega
        clear hs4 hc4 hf4 HDJ HM3 HMR
        go_wp2_with (fail)
        refine (HO.out _ bq fq HMQ.out).mono ?_
        rintro e w5 ⟨ft, tb, nb, kb, rfl, hs5, hc5, hf5⟩
        have HT5 := hd hs5
        have HS5 := hd (HS4.out.chg hc5 HMQ.out.low (fun k hk q => HD4.out k q hk))
        have HAP : Hd (ShApart sb mb lb fs tb nb kb ft) := hd fun k hk q => by
          rcases hf5 k q with r | r
          · exact HD4.out k hk r
          · have := HS4.out.lt k hk
            omega
        clear hs5 hc5 hf5 HD4 HMQ HO HS4
        have hbl := HS5.out.below
        have HCC := hd (sh_commit HG.out HS5.out HC1.out.lok (HA.out.below hbl) hc (by omega) (fun hne k' off q hk' => by
          have h1 := HA.out.old hne q
          have h2 := HS5.out.low k' hk'
          omega) (by simp) HCL.out HCM.out)
        clear hbl
        go_wp2_with (first | (go_at_call 12; refine (num5_any _ _).mono ?_; rintro e w' ⟨rfl, rfl⟩) | (go_at_call 14; refine HCC.out.mono ?_; rintro e w6 ⟨rfl, fs6, hs6, hc6, hf6⟩; have HS6 := hd hs6; have HT6 := hd (HT5.out.chg hc6 HS5.out.low (fun k hk q => HAP.out k hk q)); have HA6 : Hd (ShApart sb mb lb fs6 tb nb kb ft) := hd (fun k hk q => (Foot.step hf6 k hk).elim (fun r => HAP.out k r q) (fun r => by have := HT5.out.lt k q; omega)); clear hs6 hc6 hf6))
        have HONE : Hd (OneAt w w6 bq tb nb kb l 0 s1 L1 [] ft) := hd ⟨HT6.out, HC1.out, by simp, l1, m1, by omega⟩
        have HV2 := hd HC2.out.good
        have hp40 : (doAll [] (l.map MC.toC)).length ≤ 40 := by
          have := lenP_all (l.map MC.toC) []
          rw [List.length_map] at this
          simp only [List.length_nil] at this
          omega
        clear HT5 HS5 HAP HCC HCM HCL HC2 HC1 HT6
        go_loopw [14, 15, 16] (fun v h i wr => ∃ (k : Nat) (wv : ByteArray) (hb : Bool) (s : RS) (L : LS) (recs : List Txt) (fp : List Nat), k ≤ l.length ∧ v = .string wv ∧ h = .bool hb ∧ i = .int .i64 k ∧
          Hd (lastC (bsL key) ((l.take k).map MC.toC) ([], false) = (bsL wv, hb) ∧ OneAt w wr bq tb nb kb l k s L recs fp ∧ ShAt w wr br sb mb lb s2 L2 (doAll [] (l.map MC.toC)) fs6 ∧ ShApart sb mb lb fs6 tb nb kb fp)) (fun _ _ i _ => l.length - (RowKit.intOf i).toNat)
        case atStart => exact ⟨0, ⟨#[]⟩, false, s1, L1, [], ft, by omega, rfl, rfl, rfl, hd ⟨rfl, HONE.out, HS6.out, HA6.out⟩⟩
        case round =>
          obtain ⟨k, wv, hb, s, L, recs, fp, hkl, rfl, rfl, rfl, HL⟩ := hrel
          by_cases hlt : k < l.length
          · obtain ⟨b2, off2, hA2⟩ := HA.out.addr (by intro h; rw [h] at hlt; simp at hlt)
            obtain ⟨x, hx⟩ : ∃ x, l[k]? = some x := ⟨_, List.getElem?_eq_getElem hlt⟩
            have HCW : Hd (∀ w2, Below w.heap.size w w2 → ∀ j v, x.cells[j]? = some v → w2.cell? ⟨b2, off2 + (k * 3 + j), none⟩ = some v) := hd fun w2 hb2 j v hj => by
              have h1 := HA.out.cell b2 off2 k j x v hA2 hx hj
              exact (hb2.cell (World.block_lt_of_cell? w _ h1)).trans h1
            have x0 := HCW.out wr HL.out.2.1.at_.below 0 _ rfl
            have x1 := HCW.out wr HL.out.2.1.at_.below 1 _ rfl
            have x2 := HCW.out wr HL.out.2.1.at_.below 2 _ rfl
            simp only [← Nat.add_assoc, Nat.add_zero] at x0 x1 x2
            have HNX := hd (HL.out.2.1.next HG.out hl40 htot x hx (HVAL.out x (List.mem_of_getElem? hx)) (HA.out.size x (List.mem_of_getElem? hx)))
            have HST : Hd (lastC (bsL key) ((l.take (k + 1)).map MC.toC) ([], false) = if bsL x.key = bsL key then (bsL x.val, !x.gone) else (bsL wv, hb)) := hd (by
              rw [List.take_add_one, hx, List.map_append, ← HL.out.1]
              exact lastC_snoc _ _ _ _)
            subst hA2
            clear hx
            go_wp2_with (fail)
            refine HNX.out.mono ?_
            rintro e w7 ⟨rfl, s', L', recs', fp', h7, hc7, hf7⟩
            have H7 := hd h7
            have HS7 := hd (HL.out.2.2.1.chg hc7 HL.out.2.1.at_.low (fun k' hk' q => HL.out.2.2.2 k' q hk'))
            have HA7 := hd (HL.out.2.2.2.next HL.out.2.2.1 hf7)
            have y0 := HCW.out w7 h7.at_.below 0 _ rfl
            have y1 := HCW.out w7 h7.at_.below 1 _ rfl
            have y2 := HCW.out w7 h7.at_.below 2 _ rfl
            simp only [← Nat.add_assoc, Nat.add_zero] at y0 y1 y2
            clear h7 hc7 hf7 HNX x0 x1 x2 HCW HL
            by_cases hkk : bsL x.key = bsL key
            · have e1 : (x.key.toList == key.toList) = true := beq_iff_eq.2 (by rw [ByteArray.toList_eq, ByteArray.toList_eq]; exact hkk)
              rw [if_pos hkk] at HST
              clear hkk
              go_upto_region 23 with (go_at_call 12; refine (num5_any _ _).mono ?_; rintro e w' ⟨rfl, rfl⟩)
              go_quiet (fail)
              go_wp2_with (fail)
              go_roundw
              case rel => exact ⟨k + 1, x.val, !x.gone, s', L', recs', fp', by omega, rfl, rfl, by go_num, hd ⟨HST.out, H7.out.below (below_drewN0 _ _), HS7.out.drewN _, HA7.out⟩⟩
              case measure => simp [RowKit.intOf]; omega
            · have e1 : (x.key.toList == key.toList) = false := beq_eq_false_iff_ne.2 (by rw [ByteArray.toList_eq, ByteArray.toList_eq]; exact hkk)
              rw [if_neg hkk] at HST
              clear hkk
              go_wp2_with (go_at_call 12; refine (num5_any _ _).mono ?_; rintro e w' ⟨rfl, rfl⟩)
              go_roundw
              case rel => exact ⟨k + 1, wv, hb, s', L', recs', fp', by omega, rfl, rfl, by go_num, hd ⟨HST.out, H7.out, HS7.out, HA7.out⟩⟩
              case measure => simp [RowKit.intOf]; omega
          · obtain rfl : k = l.length := by omega
            have h1 := HL.out.1
            have h2 := HL.out.2.1.at_
            rw [List.take_length] at h1 h2
            have hlg := last_get (bsL key) (l.map MC.toC) [] ([], false) List.Pairwise.nil (all_of HVAL.out) rfl (fun _ => rfl)
            rw [h1] at hlg
            have HT8 := hd h2
            have HS8 := hd HL.out.2.2.1
            have HGET := hd (sh_get HS8.out key (by unfold maxLen; omega))
            have hgot : gotS (bsL key) (doAll [] (l.map MC.toC)) = bsL wv ∧ (getS (bsL key) (doAll [] (l.map MC.toC))).isSome = hb := by
              unfold gotS
              cases hb with
              | true =>
                have := hlg.1
                rw [if_pos rfl] at this
                rw [this]
                exact ⟨rfl, rfl⟩
              | false =>
                have := hlg.1
                rw [if_neg (by simp)] at this
                rw [this]
                exact ⟨(hlg.2 rfl).symm, rfl⟩
            rw [hgot.1, hgot.2, of_bs] at HGET
            have HSC8 := hd (own_scan0 HS8.out (by omega) HV2.out.2)
            clear h1 h2 hlg hgot HL
            go_wp2_with (go_at_call 18; refine HGET.out.mono ?_; rintro e w' ⟨rfl, rfl⟩)
            refine HSC8.out.mono ?_
            rintro e w9 ⟨va, rfl, hra, hb9⟩
            have HRA := hd hra
            have HT9 := hd (HT8.out.below_ hb9)
            clear hra hb9 HSC8
            go_wp2_with (fail)
            have HSC9 := hd (own_scan0 HT9.out (by omega) HV2.out.2)
            refine HSC9.out.mono ?_
            rintro e w10 ⟨vb, rfl, hrb, hb10⟩
            have HRB := hd hrb
            have HRA2 := hd (HRA.out.below hb10)
            have HB10 := hd (HT9.out.below_ hb10).below
            clear hrb hb10 HSC9 HRA
            go_wp2_with (fail)
            refine (psame_call HRA2.out HRB.out (by omega)).mono ?_
            rintro e w11 ⟨rfl, n11, rfl⟩
            rw [decide_eq_true (rfl : doAll [] (l.map MC.toC) = doAll [] (l.map MC.toC))]
            have HB11 := hd (HB10.out.trans ((below_drewN0 w10 n11).mono HB10.out.size))
            go_wp2_with (go_at_call 10; refine (LV.out _ HB11.out).mono ?_; rintro e w13 ⟨rfl, hl⟩)
            go_ret
            exact ⟨rfl, hl⟩
/-- As the row wants it. -/
theorem last_walk {H : Type} {enc : TypeId × Value → H} (W : World) (hG : Gl W) (v : Value) (ho : ∃ A n c, v = .slice A n c) {d : DataW H} {p : List MemPlace} (h : DataW.Trod enc Tryz.prog W 0 (fun _ => true) true 22 v d p) (hl : Light Tryz.prog 22 d) (k : ByteArray) (hk : k.size ≤ 140737488351232) :
    Calls Tryz.prog 4 #[v, .string k] W fun e w' => e = .returned (.bool true) ∧ Below W.heap.size W w' := by
  obtain ⟨A, l, c, rfl, h1, h2, h3, h4⟩ := open_chs ho h hl
  exact last_core W hG A c l k h3 h4 h1 h2 hk
end Go.Proofs.YtopajmbblemopaaGreatDoor
