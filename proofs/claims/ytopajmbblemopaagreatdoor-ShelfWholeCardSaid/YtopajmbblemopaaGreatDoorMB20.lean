/-
  Lemmas, joined of the texts SP1 SP2 SP3 XPg0 XPg1 XPg2 XPg P1 P2 P3 LM L1.
-/
import Derived.Test.YtopajmbblemopaaGreatDoorMB18
import Derived.Test.YtopajmbblemopaaGreatDoorMB19
import Derived.Test.YtopajmbblemopaaGreatDoorProg
import Derived.Test.YtopajmbblemopaaGreatDoorMB1
import Derived.Test.YtopajmbblemopaaGreatDoorMB13
import Derived.Below
import Derived.Deep.Draws
import Derived.Deep.AppendLies
import Derived.Maps.AppendAt
import Derived.OwnWalk
import Derived.Laws.BytesArg
import Derived.Laws.MakeOwn
import Derived.Laws.OwnMore
import Derived.Deep.OwnRows
import Derived.Tactics
import Derived.Lib.ConvBytes
import Derived.Laws.Slices
import Derived.WalkKit
import Derived.KernelRfl
import Derived.RowKit3
import Derived.Deep.LoopGhost
import Derived.Deep.QuietTactic
import Derived.BigQuiet
import Derived.WideLaws
import Derived.Deep.DeepCutAuto
import Derived.Deep.CutBlock
import Derived.Deep.RegionHeld3
import Derived.Laws.Rows
import Derived.Lib.AppendStr
import Derived.ArgAppend
import Derived.Laws.IdiomCopy
import Derived.OrdersHeld
import Derived.Laws.BitsLemmas
import Derived.RowKit
import Derived.Test.YtopajmbblemopaaGreatDoorMB17
import Derived.Test.YtopajmbblemopaaGreatDoorMB16
import Derived.Test.YtopajmbblemopaaGreatDoorWWords
import Derived.Test.YtopajmbblemopaaGreatDoorWLast
import Derived.Test.YtopajmbblemopaaGreatDoorWTab
import Derived.Test.YtopajmbblemopaaGreatDoorWFour
import Derived.Test.YtopajmbblemopaaGreatDoorWQPut
import Derived.Test.YtopajmbblemopaaGreatDoorWApart
import Derived.Test.YtopajmbblemopaaGreatDoorWArr
import Derived.Test.YtopajmbblemopaaGreatDoorWZeros
import Derived.Test.YtopajmbblemopaaGreatDoorWFoot
import Derived.Test.YtopajmbblemopaaGreatDoorWKept
import Derived.Test.YtopajmbblemopaaGreatDoorWShare
import Derived.Test.YtopajmbblemopaaGreatDoorWN
import Derived.Test.YtopajmbblemopaaGreatDoorWFootNe
import Derived.Test.YtopajmbblemopaaGreatDoorWAt
import Derived.Test.YtopajmbblemopaaGreatDoorWEqStruct
import Derived.Test.YtopajmbblemopaaGreatDoorWRepsOne
import Derived.Test.YtopajmbblemopaaGreatDoorWInv
import Derived.Test.YtopajmbblemopaaGreatDoorWInvWords
import Derived.Test.YtopajmbblemopaaGreatDoorWGuard
import Derived.Test.YtopajmbblemopaaGreatDoorWNEv
import Derived.Test.YtopajmbblemopaaGreatDoorWMore
import Derived.Test.YtopajmbblemopaaGreatDoorMB8
namespace Go.Proofs.YtopajmbblemopaaGreatDoor
set_option linter.unusedVariables false
set_option linter.unusedSimpArgs false
open Go.RowKit Go.Proofs.YtopajmbblemopaaGreatDoor.XSh Go.Proofs.YtopajmbblemopaaGreatDoorW.PrintWords Go.Proofs.YtopajmbblemopaaGreatDoorW.PrintLast Go.Proofs.YtopajmbblemopaaGreatDoorW.PrintMore
/-- A change as it lies in memory, as a change. -/
def toC (x : S51) : Chn := ⟨bsL x.f0, x.f2, bsL x.f1⟩
theorem sis_eq (k v : ByteArray) (g : Bool) : shelf_is.f k v g = some (isC ⟨bsL k, g, bsL v⟩) := by
  have zk := bs_size k
  have zv := bs_size v
  unfold shelf_is.f isC
  simp only
  rw [bs_toList, bs_toList]
  by_cases h0 : bsL k = []
  · rw [if_pos h0, h0]
    rfl
  · have hp : 1 ≤ (bsL k).length := List.length_pos_iff.2 h0
    rw [if_neg h0, decide_eq_true hp, Bool.true_and]
    by_cases h1 : (bsL k).length ≤ 128
    · rw [if_pos (by omega), decide_eq_true h1, Bool.true_and]
      by_cases h2 : (bsL v).length ≤ 262144
      · rw [if_pos (by omega), decide_eq_true h2, Bool.true_and]
        cases g with
        | true =>
          rw [if_pos rfl]
          congr 1
          cases bsL v <;> rfl
        | false => rfl
      · rw [if_neg (by omega), decide_eq_false h2]
        rfl
    · rw [if_neg (by omega), decide_eq_false h1]
      rfl
theorem swrap {x : Int} (h0 : -9223372036854775808 ≤ x) (h1 : x ≤ 9223372036854775807) : wrap64 x = x := by unfold wrap64; omega
theorem stie_one (x : S51) (h : isC (toC x) = true) : knot_Tie.f [x.f0, (if x.f2 = true then (⟨#[49]⟩ : ByteArray) else ⟨#[48]⟩), x.f1] = some (str (chT (toC x))) := by
  have hl := chT_len h
  obtain ⟨_, h2, h3, _⟩ := (isC_iff _).1 h
  have e : ([x.f0, (if x.f2 = true then (⟨#[49]⟩ : ByteArray) else ⟨#[48]⟩), x.f1].map bsL) = [(toC x).key, flagT (toC x).gone, (toC x).val] := by
    unfold toC flagT
    cases x.f2 <;> rfl
  unfold knot_Tie.f
  rw [e, if_pos (by show (chT (toC x)).length ≤ _; omega)]
  rfl
theorem stext_l0 (l : List S51) (hl : l.length ≤ 1000000) (hv : ∀ x ∈ l, isC (toC x) = true) (hb : (textC (l.map toC)).length ≤ 140737488351232) : ∀ (d i K : Nat), i + d = l.length → d + 1 ≤ K →
    shelf_text.l0 K ((l.take i).map fun x => str (chT (toC x))) l (l.length : Int) (i : Int) = some (str (textC (l.map toC)))
  | 0, i, K, h, hK => by
    obtain ⟨K, rfl⟩ : ∃ j, K = j + 1 := ⟨K - 1, by omega⟩
    have e : ((l.map fun x => str (chT (toC x))).map bsL) = (l.map toC).map chT := by
      rw [List.map_map, List.map_map]
      exact List.map_congr_left fun x _ => bs_of _
    rw [shelf_text.l0, if_neg (by omega), List.take_of_length_le (by omega)]
    unfold knot_Tie.f
    rw [e]
    have hb' : (tieL ((l.map toC).map chT)).length ≤ 140737488351232 := hb
    rw [if_pos hb']
    rfl
  | d + 1, i, K, h, hK => by
    obtain ⟨K, rfl⟩ : ∃ j, K = j + 1 := ⟨K - 1, by omega⟩
    have hi : i < l.length := by omega
    have hrd : rd_T51 l (i : Int) = l[i] := by simp [rd_T51, hi]
    have hx := hv l[i] (List.getElem_mem hi)
    have ht : ((l.take i).map fun x => str (chT (toC x))) ++ [str (chT (toC l[i]))] = (l.take (i + 1)).map fun x => str (chT (toC x)) := by
      rw [List.take_add_one, List.getElem?_eq_getElem hi, List.map_append]
      rfl
    have ih := stext_l0 l hl hv hb d (i + 1) K (by omega) (by omega)
    have h1 := stie_one l[i] hx
    have hw : wrap64 ((i : Int) + 1) = ((i + 1 : Nat) : Int) := by rw [swrap (by omega) (by omega)]; rfl
    rw [shelf_text.l0, if_pos (by omega), if_pos (by omega), if_pos (by omega), hrd, hw]
    by_cases hg : l[i].f2 = true
    · rw [if_pos hg] at h1
      rw [if_pos hg, h1]
      simp only [Option.bind_some]
      rw [if_pos (by rw [List.length_map, List.length_take]; omega), ht]
      exact ih
    · rw [if_neg hg] at h1
      rw [if_neg hg, h1]
      simp only [Option.bind_some]
      rw [if_pos (by rw [List.length_map, List.length_take]; omega), ht]
      exact ih
theorem stext_eq (l : List S51) (hl : l.length ≤ 1000000) (hv : ∀ x ∈ l, isC (toC x) = true) (hb : (textC (l.map toC)).length ≤ 140737488351232) : shelf_text.f (l.length + 1) l = some (str (textC (l.map toC))) := by
  have := stext_l0 l hl hv hb l.length 0 (l.length + 1) (by omega) (by omega)
  simpa [shelf_text.f] using this
theorem text_call {w : World} {A : Option Addr} {c : Nat} {l : List S51} (hA : Kd.C k51 w A l.length l) (hc : l.length ≤ c) (hG : Gl w) (hl : l.length ≤ 1000000) (hv : ∀ x ∈ l, isC (toC x) = true) (hb : (textC (l.map toC)).length ≤ 140737488351232) :
    Calls Tryz.prog 39 #[.slice A l.length c] w fun e w' => e = .returned (.string (str (textC (l.map toC)))) ∧ Below w.heap.size w w' :=
  shelf_text.calls (l.length + 1) A c l _ w hA hc (stext_eq l hl hv hb) hG
end Go.Proofs.YtopajmbblemopaaGreatDoor
namespace Go.Proofs.YtopajmbblemopaaGreatDoor
set_option linter.unusedVariables false
set_option linter.unusedSimpArgs false
open Go.RowKit Go.Proofs.YtopajmbblemopaaGreatDoor.XSh Go.Proofs.YtopajmbblemopaaGreatDoorW.PrintWords Go.Proofs.YtopajmbblemopaaGreatDoorW.PrintLast Go.Proofs.YtopajmbblemopaaGreatDoorW.PrintMore
def mcOf (x : S51) : MC := ⟨x.f0, x.f1, x.f2⟩
theorem ch_of_C {w : World} {A : Option Addr} {l : List S51} (h : Kd.C k51 w A l.length l) (hs : ∀ x ∈ l, x.f0.size ≤ maxLen ∧ x.f1.size ≤ maxLen) : ChAt w A (l.map mcOf) := by
  have key : ∀ (ad : Addr), A = some ad → ∀ (i : Nat) (x : S51), l[i]? = some x → ∀ j u, (mcOf x).cells[j]? = some u → w.cell? (ad.add (i * 3 + j)) = some u := by
    intro ad hA i x hx j u hu
    have hi : i < l.length := (List.getElem?_eq_some_iff.1 hx).1
    obtain ⟨ad', e, hc⟩ := h.2.2 (by omega)
    obtain ⟨c, hcl, hr, hcell⟩ := hc i x hx
    rw [hA] at e
    injection e with e
    subst e
    rw [k51_open hr] at hcell
    exact hcell j u hu
  refine ⟨fun c hc => ?_, fun hne => ?_, fun b off i j c v hA hi hj => ?_⟩
  · obtain ⟨x, hx, rfl⟩ := List.mem_map.1 hc
    exact hs x hx
  · have h0 : 0 < l.length := by
      rcases Nat.eq_zero_or_pos l.length with q | q
      · exact absurd (by rw [List.length_eq_zero_iff.1 q]; rfl) hne
      · exact q
    obtain ⟨ad, e, _⟩ := h.2.2 h0
    have h1 := key ad e 0 _ (List.getElem?_eq_getElem h0) 0 _ rfl
    have h2 : ad.add (0 * 3 + 0) = ad := by unfold Addr.add; simp
    rw [h2] at h1
    have hsp : ad.spot = none := by
      unfold World.cell? at h1
      split at h1
      · split at h1
        · cases h1
        · rename_i hq
          cases hq2 : ad.spot with
          | none => rfl
          | some y => rw [hq2] at hq; simp at hq
      · cases h1
    exact ⟨ad.block, ad.off, by rw [e]; congr 1; cases ad; simp only at hsp; rw [hsp]⟩
  · rw [List.getElem?_map] at hi
    cases hx : l[i]? with
    | none => rw [hx] at hi; cases hi
    | some x =>
      rw [hx] at hi
      injection hi with hi
      subst hi
      have h1 := key _ hA i x hx j v hj
      have h2 : (⟨b, off, none⟩ : Addr).add (i * 3 + j) = ⟨b, off + (i * 3 + j), none⟩ := by
        unfold Addr.add
        split
        · rename_i q
          rw [q]
          rfl
        · rfl
      rwa [h2] at h1
end Go.Proofs.YtopajmbblemopaaGreatDoor
namespace Go.Proofs.YtopajmbblemopaaGreatDoor
set_option linter.unusedVariables false
set_option linter.unusedSimpArgs false
open Go.RowKit Go.Proofs.YtopajmbblemopaaGreatDoor.XSh Go.Proofs.YtopajmbblemopaaGreatDoorW.PrintWords Go.Proofs.YtopajmbblemopaaGreatDoorW.PrintLast Go.Proofs.YtopajmbblemopaaGreatDoorW.PrintMore
theorem is_call (x : MC) (w : World) (hG : Gl w) : Calls Tryz.prog 37 #[.agg #[.string x.key, .string x.val, .bool x.gone]] w fun e w' => e = .returned (.bool (isC x.toC)) ∧ Below w.heap.size w w' :=
  shelf_is.calls x.key x.val x.gone _ w (sis_eq x.key x.val x.gone) hG
theorem isnt_call (x : MC) (w : World) (hG : Gl w) : Calls Tryz.prog 36 #[.agg #[.string x.key, .string x.val, .bool x.gone]] w fun e w' => e = .returned (.bool (!isC x.toC)) ∧ Below w.heap.size w w' := by
  have hb : Below w.heap.size w (w.alloc (.cells #[.string x.key, .string x.val, .bool x.gone] 51)) := (Below.refl _ _).alloc (Nat.le_refl _) _
  have HI := hd (is_call x (w.alloc (.cells #[.string x.key, .string x.val, .bool x.gone] 51)) (gl_below hG hb))
  have HB := hd hb
  obtain ⟨r, hr⟩ : ∃ r, isC x.toC = r := ⟨_, rfl⟩
  rw [hr] at HI ⊢
  clear hr hG hb
  go_enter Tryz.func36, Tryz.ntmps36
  go_wp2_with (fail)
  refine HI.out.mono ?_
  rintro e w1 ⟨rfl, h1⟩
  have H1 := hd h1
  clear h1
  go_wp2_with (fail)
  go_ret
  exact ⟨rfl, HB.out.trans (H1.out.mono HB.out.size)⟩
set_option maxHeartbeats 800000 in
theorem index_bad (A : Option Addr) (l : List MC) (cap : Nat) (w : World) (hA : ChAt w A l) (hl : l.length ≤ 1000000) (hG : Gl w) :
    Calls Tryz.prog 66 #[.slice A l.length cap, .func (.func 36) #[] #[]] w fun e w' =>
      ∃ r : Int, e = .returned (.int .i64 r) ∧ ((0 ≤ r ∧ ¬ ∀ c ∈ l, isC c.toC = true) ∨ (r = -1 ∧ ∀ c ∈ l, isC c.toC = true)) ∧ Below w.heap.size w w' := by
  have HA := hd hA
  have HI := hd (fun (x : MC) (w' : World) (hb : Below w.heap.size w w') => isnt_call x w' (gl_below hG hb))
  clear hA hG
  go_enter Tryz.func66, Tryz.ntmps66
  go_wp2_with (fail)
  go_loopw [8] (fun i wr => ∃ k : Nat, k ≤ l.length ∧ i = .int .i64 k ∧ Hd (Below w.heap.size w wr ∧ ∀ c ∈ l.take k, isC c.toC = true)) (fun i _ => l.length - (RowKit.intOf i).toNat)
  case atStart => exact ⟨0, by omega, rfl, hd ⟨Below.refl _ _, fun _ h => by simp at h⟩⟩
  case round =>
    obtain ⟨k, hk, rfl, HR⟩ := hrel
    by_cases hlt : k < l.length
    · obtain ⟨b, off, rfl⟩ := HA.out.addr (by intro h; rw [h] at hlt; simp at hlt)
      obtain ⟨c, hc⟩ : ∃ c, l[k]? = some c := ⟨_, List.getElem?_eq_getElem hlt⟩
      have hcell : ∀ j v, c.cells[j]? = some v → wr.cell? ⟨b, off + (k * 3 + j), none⟩ = some v := fun j v hj => by
        have h1 := HA.out.cell b off k j c v rfl hc hj
        exact (HR.out.1.cell (World.block_lt_of_cell? w _ h1)).trans h1
      have c0 := hcell 0 _ rfl
      have c1 := hcell 1 _ rfl
      have c2 := hcell 2 _ rfl
      simp only [← Nat.add_assoc, Nat.add_zero] at c0 c1 c2
      have HN := hd (HI.out c wr HR.out.1)
      have hmem := hd (List.mem_of_getElem? hc)
      have ht : l.take (k + 1) = l.take k ++ [c] := by rw [List.take_add_one, hc]; rfl
      have HT := hd ht
      clear hc ht hcell
      cases hq : isC c.toC with
      | true =>
        rw [hq] at HN
        have HQ := hd hq
        clear hq
        go_wp2_with (fail)
        refine HN.out.mono ?_
        rintro e w1 ⟨rfl, h1⟩
        have H1 := hd h1
        clear h1
        go_wp2_with (fail)
        go_roundw
        case rel =>
          refine ⟨k + 1, by omega, by go_num, hd ⟨HR.out.1.trans (H1.out.mono HR.out.1.size), fun x hx => ?_⟩⟩
          rw [HT.out] at hx
          rcases List.mem_append.1 hx with hx | hx
          · exact HR.out.2 x hx
          · rw [List.mem_singleton.1 hx]; exact HQ.out
        case measure => simp [RowKit.intOf]; omega
      | false =>
        rw [hq] at HN
        have HQ := hd hq
        clear hq
        go_wp2_with (fail)
        refine HN.out.mono ?_
        rintro e w1 ⟨rfl, h1⟩
        have H1 := hd h1
        clear h1
        go_wp2_with (fail)
        go_ret
        refine ⟨_, rfl, .inl ⟨by omega, fun h => ?_⟩, HR.out.1.trans (H1.out.mono HR.out.1.size)⟩
        have := h c hmem.out
        rw [HQ.out] at this
        cases this
    · obtain rfl : k = l.length := by omega
      have h := HR.out
      rw [List.take_length] at h
      go_wp2_with (fail)
      go_ret
      exact ⟨_, rfl, .inr ⟨rfl, h.2⟩, h.1⟩
theorem has_bad (A : Option Addr) (l : List MC) (cap : Nat) (w : World) (hA : ChAt w A l) (hl : l.length ≤ 1000000) (hG : Gl w) :
    Calls Tryz.prog 35 #[.slice A l.length cap, .func (.func 36) #[] #[]] w fun e w' =>
      ∃ r : Bool, e = .returned (.bool r) ∧ (r = false ↔ ∀ c ∈ l, isC c.toC = true) ∧ Below w.heap.size w w' := by
  have HI := hd (index_bad A l cap w hA hl hG)
  clear hA hG
  go_enter Tryz.func35, Tryz.ntmps35
  go_wp2_with (fail)
  refine HI.out.mono ?_
  rintro e w1 ⟨r, rfl, hor, hb⟩
  have HB := hd hb
  have HO := hd hor
  clear hb hor HI
  rcases HO.out with ⟨h0, h1⟩ | ⟨rfl, h1⟩
  · have H1 := hd h1
    clear h1
    go_wp2_with (fail)
    go_ret
    exact ⟨true, rfl, ⟨(fun q => nomatch q), fun q => absurd q H1.out⟩, HB.out⟩
  · have H1 := hd h1
    clear h1
    go_wp2_with (fail)
    go_ret
    exact ⟨false, rfl, ⟨fun _ => H1.out, fun _ => rfl⟩, HB.out⟩
end Go.Proofs.YtopajmbblemopaaGreatDoor
namespace Go.Proofs.YtopajmbblemopaaGreatDoor.XPg
open Go.RowKit Go.Proofs.YtopajmbblemopaaGreatDoorW.PrintWords Go.Proofs.YtopajmbblemopaaGreatDoorW.PrintLast Go.Proofs.YtopajmbblemopaaGreatDoorW.PrintMore
attribute [local go_sem] max2_int min2_int max_two min_two max_three min_three max_four min_four   -- for this text's walks alone
set_option linter.unusedVariables false
set_option linter.unusedSimpArgs false



def errW : Option Int → Value
  | none => .nilIface
  | some c => .iface 0 (.int .i64 c)
theorem errW_none : errW none = .nilIface := rfl
theorem errW_some (c : Int) : errW (some c) = .iface 0 (.int .i64 c) := rfl

theorem info9 : (Tryz.prog.info? 9).map (fun i => (i.zero, i.size, i.bytes)) = some (some (.string ⟨#[]⟩), 1, 16) := by kernel_rfl
-- the values' own types
end Go.Proofs.YtopajmbblemopaaGreatDoor.XPg
namespace Go.Proofs.YtopajmbblemopaaGreatDoor.XPg
open Go.RowKit Go.Proofs.YtopajmbblemopaaGreatDoorW.PrintWords Go.Proofs.YtopajmbblemopaaGreatDoorW.PrintLast Go.Proofs.YtopajmbblemopaaGreatDoorW.PrintMore
attribute [local go_sem] max2_int min2_int max_two min_two max_three min_three max_four min_four   -- for this text's walks alone
set_option linter.unusedVariables false
set_option linter.unusedSimpArgs false

/-! ### knot_Tie: function 69: given -/
def knot_Tie.f (l0 : List (ByteArray)) : Option (ByteArray) := if (tieL (l0.map bsL)).length ≤ 140737488351232 then some (str (tieL (l0.map bsL))) else none
theorem knot_Tie.calls (A0 : Option Addr) (c0 : Nat) (l0 : List (ByteArray)) (r : ByteArray) (w : World) (hr0 : Kd.C Kd.string w A0 l0.length l0) (hc0 : l0.length ≤ c0) (h : knot_Tie.f l0 = some r) (hG : Gl w) :
    Calls Tryz.prog 69 #[.slice A0 l0.length c0] w fun e w' => e = .returned (.string r) ∧ Below w.heap.size w w' := by
  unfold knot_Tie.f at h
  split at h
  · rename_i hc
    obtain rfl := Option.some.inj h
    exact tie_walk A0 l0 c0 w (strs_at hr0) hc hG
  · cases h


/-! ### knot_Seal: function 86: given -/
def knot_Seal.f (a0 : ByteArray) : Option (ByteArray) := if a0.size ≤ 281474976710640 then some (str (sealL (bsL a0))) else none
theorem knot_Seal.calls (a0 : ByteArray) (r : ByteArray) (w : World) (h : knot_Seal.f a0 = some r) (hG : Gl w) :
    Calls Tryz.prog 86 #[.string a0] w fun e w' => e = .returned (.string r) ∧ Below w.heap.size w w' := by
  unfold knot_Seal.f at h
  split at h
  · rename_i hc
    obtain rfl := Option.some.inj h
    exact seal_walk a0 w hc
  · cases h


/-! ### knot_Num: function 87: given -/
def knot_Num.f (a0 : Int) : Option (ByteArray) := if -9223372036854775808 ≤ a0 ∧ a0 ≤ 9223372036854775807 then some (str (Lib.itoa a0)) else none
theorem knot_Num.calls (a0 : Int) (r : ByteArray) (w : World) (h : knot_Num.f a0 = some r) (hG : Gl w) :
    Calls Tryz.prog 87 #[.int .i64 a0] w fun e w' => e = .returned (.string r) ∧ Below w.heap.size w w' := by
  unfold knot_Num.f at h
  split at h
  · rename_i hc
    obtain rfl := Option.some.inj h
    exact num_text a0 w hc hG
  · cases h


/-! ### ledger_laid: function 60 -/
def ledger_laid.f (a0 : ByteArray) (a1 : Int) (a2 : ByteArray) : Option (ByteArray) := (knot_Num.f a1).bind fun t101 => ((knot_Tie.f (([a0, t101, a2] : List ByteArray))).bind fun t105 => ((knot_Seal.f t105).bind fun t106 => ((knot_Tie.f (([t106] : List ByteArray))).bind fun t110 => (some t110))))
set_option maxHeartbeats 8000000 in
set_option maxRecDepth 100000 in
theorem ledger_laid.calls (a0 : ByteArray) (a1 : Int) (a2 : ByteArray) (r : ByteArray) (w : World) (h : ledger_laid.f a0 a1 a2 = some r) (hG : Gl w) :
    Calls Tryz.prog 60 #[.string a0, .int .i64 a1, .string a2] w fun e w' => e = .returned (.string r) ∧ Below w.heap.size w w' := by
  have HG := Aside0.mk hG
  clear hG
  have HB := Aside0.mk (Below.refl w.heap.size w)
  have H : ((knot_Num.f a1).bind fun t101 => ((knot_Tie.f (([a0, t101, a2] : List ByteArray))).bind fun t105 => ((knot_Seal.f t105).bind fun t106 => ((knot_Tie.f (([t106] : List ByteArray))).bind fun t110 => (some t110))))) = some r := h
  clear h
  replace H := Option.bind_eq_some_iff.mp H
  obtain ⟨t101, A40, H⟩ := H
  replace H : ((knot_Tie.f (([a0, t101, a2] : List ByteArray))).bind fun t105 => ((knot_Seal.f t105).bind fun t106 => ((knot_Tie.f (([t106] : List ByteArray))).bind fun t110 => (some t110)))) = some r := H
  have A4 := Aside0.mk A40
  clear A40
  obtain ⟨y102, hy102⟩ : ∃ y_ : List ByteArray, y_ = (([a0, t101, a2] : List ByteArray)) := ⟨_, rfl⟩
  replace H : ((knot_Tie.f y102).bind fun t105 => ((knot_Seal.f t105).bind fun t106 => ((knot_Tie.f (([t106] : List ByteArray))).bind fun t110 => (some t110)))) = some r := by first | (rw [hy102]; with_reducible exact H) | (have H2_ := (Option.bind_some _ _).symm.trans H; rw [hy102]; with_reducible exact H2_) | (have H2_ := (Option.bind_some _ _).symm.trans H; with_reducible exact H2_) | with_reducible exact H | (rw [hy102]; exact H) | exact H
  have Ny102 := Aside0.mk hy102
  clear hy102
  replace H := Option.bind_eq_some_iff.mp H
  obtain ⟨t105, A50, H⟩ := H
  replace H : ((knot_Seal.f t105).bind fun t106 => ((knot_Tie.f (([t106] : List ByteArray))).bind fun t110 => (some t110))) = some r := H
  have A5 := Aside0.mk A50
  clear A50
  replace H := Option.bind_eq_some_iff.mp H
  obtain ⟨t106, A60, H⟩ := H
  replace H : ((knot_Tie.f (([t106] : List ByteArray))).bind fun t110 => (some t110)) = some r := H
  have A6 := Aside0.mk A60
  clear A60
  obtain ⟨y107, hy107⟩ : ∃ y_ : List ByteArray, y_ = (([t106] : List ByteArray)) := ⟨_, rfl⟩
  replace H : ((knot_Tie.f y107).bind fun t110 => (some t110)) = some r := by first | (rw [hy107]; with_reducible exact H) | (have H2_ := (Option.bind_some _ _).symm.trans H; rw [hy107]; with_reducible exact H2_) | (have H2_ := (Option.bind_some _ _).symm.trans H; with_reducible exact H2_) | with_reducible exact H | (rw [hy107]; exact H) | exact H
  have Ny107 := Aside0.mk hy107
  clear hy107
  replace H := Option.bind_eq_some_iff.mp H
  obtain ⟨t110, A70, H⟩ := H
  replace H : (some t110) = some r := H
  have A7 := Aside0.mk A70
  clear A70
  obtain rfl := Option.some.inj H
  go_enter Tryz.func60, Tryz.ntmps60
  go_wp2_with (first | ((with_reducible refine gate_callee (f := 87) rfl ?_); refine goesL_ (some 9) rfl rfl Tryz.func87 (by kernel_rfl) rfl #[.int .i64 a1] rfl (by (try simp only [List.map_toArray, List.map_cons, List.map_nil]); first | done | rfl | (simp only [List.length_drop, List.length_take]; rfl)) ?_; (with_reducible refine (knot_Num.calls a1 t101 _ A4.out (gl_below HG.out (by repeat (first | (with_reducible first | exact HB.out | apply below_alloc | apply pw_below_drewN | apply below_drew1) | exact HB.out)))).mono ?_); rintro e w8 ⟨rfl, hb⟩; refine ⟨_, rfl, ?_⟩; have n0_ := Aside0.mk (below_step (by repeat (first | (with_reducible first | exact HB.out | apply below_alloc | apply pw_below_drewN | apply below_drew1) | exact HB.out)) hb); clear HB; have HB := n0_; clear n0_; (try clear hb); (try clear hb2); (try clear hk); (try clear hi)) | ((with_reducible refine gate_dst (N := 11) rfl ?_); refine Kd.R_lit Kd.string _ 9 ?hg (N := 11) ?hd (xs := ([a0, t101, a2] : List ByteArray)) (inner := [.string a0, .string t101, .string a2]) (ok := fun _ => True) (okp := fun _ => True) ?hr ?hp (fun _ hk => hk) trivial (Below.refl _ _) (Nat.le_refl _) (by simp) ?_; (case hd => rfl); (case hg => rfl); (case hr => first | (go_simp; done) | (go_simp; rfl)); (case hp => exact (Reps.one (show Kd.M Kd.string _ _ _ a0 [.string a0] from rfl) (Reps.one (show Kd.M Kd.string _ _ _ t101 [.string t101] from rfl) (Reps.one (show Kd.M Kd.string _ _ _ a2 [.string a2] from rfl) (Reps.none _ _))))); intro v103 w9 ho10 hb hg_ hnew_; clear hg_ hnew_; (first | rw [← Ny102.out] at ho10 | (simp only [Int.reduceToNat] at ho10; rw [← Ny102.out] at ho10)); have n0_ := Aside0.mk (Kd.R_lower ho10 (below_size (by repeat (first | (with_reducible first | exact HB.out | apply below_alloc | apply pw_below_drewN | apply below_drew1) | exact HB.out)))); have n1_ := Aside0.mk (below_step (by repeat (first | (with_reducible first | exact HB.out | apply below_alloc | apply pw_below_drewN | apply below_drew1) | exact HB.out)) hb); clear HB; have HO104 := n0_; have HB := n1_; clear n0_ n1_; clear hb ho10; obtain ⟨Ao11, co11, eo11⟩ := Kd.R_slice HO104.out; subst eo11) | ((with_reducible refine gate_callee (f := 69) rfl ?_); refine goesL_ (some 12) rfl rfl Tryz.func69 (by kernel_rfl) rfl #[.slice Ao11 y102.length co11] rfl (by (try simp only [List.map_toArray, List.map_cons, List.map_nil]); first | done | rfl | (simp only [List.length_drop, List.length_take]; rfl)) ?_; (with_reducible refine (knot_Tie.calls _ _ y102 t105 _ ?side1 ?side2 A5.out (gl_below HG.out (by repeat (first | (with_reducible first | exact HB.out | apply below_alloc | apply pw_below_drewN | apply below_drew1) | exact HB.out)))).mono ?_); (case side1 => repeat (first | exact (Kd.R_reads' HO104.out).2.2 | (with_reducible refine Kd.C_alloc ?_ _) | (with_reducible refine Kd.C_drewN ?_ _) | (with_reducible refine Kd.C_drew ?_))); (case side2 => exact (Kd.R_reads' HO104.out).2.1); rintro e w12 ⟨rfl, hb⟩; refine ⟨_, rfl, ?_⟩; have n0_ := Aside0.mk (Kd.R_below (by (with_reducible repeat (first | apply Kd.R_alloc | apply Kd.R_drewN | apply Kd.R_drew)); exact HO104.out) hb); have n1_ := Aside0.mk (below_step (by repeat (first | (with_reducible first | exact HB.out | apply below_alloc | apply pw_below_drewN | apply below_drew1) | exact HB.out)) hb); clear HO104; clear HB; have HO104 := n0_; have HB := n1_; clear n0_ n1_; (try clear hb); (try clear hb2); (try clear hk); (try clear hi)) | ((with_reducible refine gate_callee (f := 86) rfl ?_); refine goesL_ (some 13) rfl rfl Tryz.func86 (by kernel_rfl) rfl #[.string t105] rfl (by (try simp only [List.map_toArray, List.map_cons, List.map_nil]); first | done | rfl | (simp only [List.length_drop, List.length_take]; rfl)) ?_; (with_reducible refine (knot_Seal.calls t105 t106 _ A6.out (gl_below HG.out (by repeat (first | (with_reducible first | exact HB.out | apply below_alloc | apply pw_below_drewN | apply below_drew1) | exact HB.out)))).mono ?_); rintro e w13 ⟨rfl, hb⟩; refine ⟨_, rfl, ?_⟩; have n0_ := Aside0.mk (Kd.R_below (by (with_reducible repeat (first | apply Kd.R_alloc | apply Kd.R_drewN | apply Kd.R_drew)); exact HO104.out) hb); have n1_ := Aside0.mk (below_step (by repeat (first | (with_reducible first | exact HB.out | apply below_alloc | apply pw_below_drewN | apply below_drew1) | exact HB.out)) hb); clear HO104; clear HB; have HO104 := n0_; have HB := n1_; clear n0_ n1_; (try clear hb); (try clear hb2); (try clear hk); (try clear hi)) | ((with_reducible refine gate_dst (N := 14) rfl ?_); refine Kd.R_lit Kd.string _ 9 ?hg (N := 14) ?hd (xs := ([t106] : List ByteArray)) (inner := [.string t106]) (ok := fun _ => True) (okp := fun _ => True) ?hr ?hp (fun _ hk => hk) trivial (Below.refl _ _) (Nat.le_refl _) (by simp) ?_; (case hd => rfl); (case hg => rfl); (case hr => first | (go_simp; done) | (go_simp; rfl)); (case hp => exact (Reps.one (show Kd.M Kd.string _ _ _ t106 [.string t106] from rfl) (Reps.none _ _))); intro v108 w14 ho15 hb hg_ hnew_; clear hg_ hnew_; (first | rw [← Ny107.out] at ho15 | (simp only [Int.reduceToNat] at ho15; rw [← Ny107.out] at ho15)); have n0_ := Aside0.mk (Kd.R_elder' (by (with_reducible repeat (first | apply Kd.R_alloc | apply Kd.R_drewN | apply Kd.R_drew)); exact HO104.out) (Kd.R_base ho15) hb); have n1_ := Aside0.mk (Kd.R_lower (Kd.R_new' ho15 (Kd.R_lt (by (with_reducible repeat (first | apply Kd.R_alloc | apply Kd.R_drewN | apply Kd.R_drew)); exact HO104.out))) (below_size (by repeat (first | (with_reducible first | exact HB.out | apply below_alloc | apply pw_below_drewN | apply below_drew1) | exact HB.out)))); have n2_ := Aside0.mk (below_step (by repeat (first | (with_reducible first | exact HB.out | apply below_alloc | apply pw_below_drewN | apply below_drew1) | exact HB.out)) hb); clear HO104; clear HB; have HO104 := n0_; have HO109 := n1_; have HB := n2_; clear n0_ n1_ n2_; clear hb ho15; obtain ⟨Ao16, co16, eo16⟩ := Kd.R_slice HO109.out; subst eo16) | ((with_reducible refine gate_callee (f := 69) rfl ?_); refine goesL_ (some 15) rfl rfl Tryz.func69 (by kernel_rfl) rfl #[.slice Ao16 y107.length co16] rfl (by (try simp only [List.map_toArray, List.map_cons, List.map_nil]); first | done | rfl | (simp only [List.length_drop, List.length_take]; rfl)) ?_; (with_reducible refine (knot_Tie.calls _ _ y107 t110 _ ?side1 ?side2 A7.out (gl_below HG.out (by repeat (first | (with_reducible first | exact HB.out | apply below_alloc | apply pw_below_drewN | apply below_drew1) | exact HB.out)))).mono ?_); (case side1 => repeat (first | exact (Kd.R_reads' HO109.out).2.2 | (with_reducible refine Kd.C_alloc ?_ _) | (with_reducible refine Kd.C_drewN ?_ _) | (with_reducible refine Kd.C_drew ?_))); (case side2 => exact (Kd.R_reads' HO109.out).2.1); rintro e w17 ⟨rfl, hb⟩; refine ⟨_, rfl, ?_⟩; have n0_ := Aside0.mk (Kd.R_below (by (with_reducible repeat (first | apply Kd.R_alloc | apply Kd.R_drewN | apply Kd.R_drew)); exact HO104.out) hb); have n1_ := Aside0.mk (Kd.R_below (by (with_reducible repeat (first | apply Kd.R_alloc | apply Kd.R_drewN | apply Kd.R_drew)); exact HO109.out) hb); have n2_ := Aside0.mk (below_step (by repeat (first | (with_reducible first | exact HB.out | apply below_alloc | apply pw_below_drewN | apply below_drew1) | exact HB.out)) hb); clear HO104; clear HO109; clear HB; have HO104 := n0_; have HO109 := n1_; have HB := n2_; clear n0_ n1_ n2_; (try clear hb); (try clear hb2); (try clear hk); (try clear hi)))
  go_ret
  exact ⟨by first | rfl | (simp [errW_none, errW_some] <;> rfl) | (simp [*, errW_none, errW_some] <;> rfl), by repeat (first | (with_reducible first | exact HB.out | apply below_alloc | apply pw_below_drewN | apply below_drew1) | exact HB.out)⟩

/-! ### knot_Int: function 104: given -/
def knot_Int.f (a0 : ByteArray) : Option (Int × Int) := if a0.size ≤ 281474976710656 then (match intL (bsL a0) with | some v => some (v, 0) | none => some (0, 10)) else none
theorem knot_Int.calls (a0 : ByteArray) (r1 : Int) (r2 : Int) (w : World) (h : knot_Int.f a0 = some (r1, r2)) (hG : Gl w) :
    Calls Tryz.prog 104 #[.string a0] w fun e w' => e = .returned (.tuple #[.int .i64 r1, .int .i64 r2]) ∧ Below w.heap.size w w' := by
  unfold knot_Int.f at h
  split at h
  · rename_i hc
    split at h
    · rename_i v hv
      simp only [Option.some.injEq, Prod.mk.injEq] at h
      obtain ⟨rfl, rfl⟩ := h
      exact int_ok a0 _ w hv hc hG
    · rename_i hv
      simp only [Option.some.injEq, Prod.mk.injEq] at h
      obtain ⟨rfl, rfl⟩ := h
      exact int_bad a0 w hv hc hG
  · cases h


/-! ### strings_Cut: function 107: given -/
def strings_Cut.f (a0 : ByteArray) (a1 : ByteArray) : Option (ByteArray × ByteArray × Bool) := if a0.size < 4294967281 then some (str (Lib.cut (bsL a0) (bsL a1)).1, str (Lib.cut (bsL a0) (bsL a1)).2.1, (Lib.cut (bsL a0) (bsL a1)).2.2) else none
theorem strings_Cut.calls (a0 : ByteArray) (a1 : ByteArray) (r1 : ByteArray) (r2 : ByteArray) (r3 : Bool) (w : World) (h : strings_Cut.f a0 a1 = some (r1, r2, r3)) (hG : Gl w) :
    Calls Tryz.prog 107 #[.string a0, .string a1] w fun e w' => e = .returned (.tuple #[.string r1, .string r2, .bool r3]) ∧ Drawn0 w w' := by
  unfold strings_Cut.f at h
  split at h
  · rename_i hc
    simp only [Option.some.injEq, Prod.mk.injEq] at h
    obtain ⟨rfl, rfl, rfl⟩ := h
    obtain ⟨m, hm⟩ := hG.most
    refine (Tryz.strings_Cut a0 a1 m w hc hm).mono ?_
    rintro e w' ⟨rfl, n, rfl⟩
    exact ⟨rfl, n, rfl⟩
  · cases h


/-! ### knot_First: function 89 -/
def knot_First.f (a0 : ByteArray) : Option (ByteArray × ByteArray × Int) := if 0 ≤ (mn (a0.size : Int) 1048576) then (if (mn (a0.size : Int) 1048576) ≤ (a0.size : Int) then ((strings_Cut.f (a0.extract 0 ((mn (a0.size : Int) 1048576) : Int).toNat) (⟨#[58]⟩ : ByteArray)).bind fun bt111 => ((knot_Int.f bt111.1).bind fun bt114 => (if bt111.2.2 = true then (if bt114.2 = 0 then (if bt114.1 < 0 then (some ((⟨#[]⟩ : ByteArray), a0, 10)) else (if bt114.1 ≥ (bt111.2.1.size : Int) then (some ((⟨#[]⟩ : ByteArray), a0, 10)) else (if 0 ≤ bt114.1 then (if bt114.1 < (bt111.2.1.size : Int) then (if (bt bt111.2.1 bt114.1) = 44 then (if bt114.1 ≤ (bt111.2.1.size : Int) then (if 0 ≤ (wrap64 ((wrap64 ((wrap64 ((bt111.1.size : Int) + 1)) + bt114.1)) + 1)) then (if (wrap64 ((wrap64 ((wrap64 ((bt111.1.size : Int) + 1)) + bt114.1)) + 1)) ≤ (a0.size : Int) then (some (bt111.2.1.extract 0 (bt114.1 : Int).toNat, a0.extract ((wrap64 ((wrap64 ((wrap64 ((bt111.1.size : Int) + 1)) + bt114.1)) + 1)) : Int).toNat a0.size, 0)) else (none)) else (none)) else (none)) else (some ((⟨#[]⟩ : ByteArray), a0, 10))) else (none)) else (none)))) else (some ((⟨#[]⟩ : ByteArray), a0, 10))) else (some ((⟨#[]⟩ : ByteArray), a0, 10))))) else (none)) else (none)
set_option maxHeartbeats 8000000 in
set_option maxRecDepth 100000 in
theorem knot_First.calls (a0 : ByteArray) (r1 : ByteArray) (r2 : ByteArray) (r3 : Int) (w : World) (h : knot_First.f a0 = some (r1, r2, r3)) (hG : Gl w) :
    Calls Tryz.prog 89 #[.string a0] w fun e w' => e = .returned (.tuple #[.string r1, .string r2, .int .i64 r3]) ∧ Below w.heap.size w w' := by
  have HG := Aside0.mk hG
  clear hG
  have HB := Aside0.mk (Below.refl w.heap.size w)
  have H : (if 0 ≤ (mn (a0.size : Int) 1048576) then (if (mn (a0.size : Int) 1048576) ≤ (a0.size : Int) then ((strings_Cut.f (a0.extract 0 ((mn (a0.size : Int) 1048576) : Int).toNat) (⟨#[58]⟩ : ByteArray)).bind fun bt111 => ((knot_Int.f bt111.1).bind fun bt114 => (if bt111.2.2 = true then (if bt114.2 = 0 then (if bt114.1 < 0 then (some ((⟨#[]⟩ : ByteArray), a0, 10)) else (if bt114.1 ≥ (bt111.2.1.size : Int) then (some ((⟨#[]⟩ : ByteArray), a0, 10)) else (if 0 ≤ bt114.1 then (if bt114.1 < (bt111.2.1.size : Int) then (if (bt bt111.2.1 bt114.1) = 44 then (if bt114.1 ≤ (bt111.2.1.size : Int) then (if 0 ≤ (wrap64 ((wrap64 ((wrap64 ((bt111.1.size : Int) + 1)) + bt114.1)) + 1)) then (if (wrap64 ((wrap64 ((wrap64 ((bt111.1.size : Int) + 1)) + bt114.1)) + 1)) ≤ (a0.size : Int) then (some (bt111.2.1.extract 0 (bt114.1 : Int).toNat, a0.extract ((wrap64 ((wrap64 ((wrap64 ((bt111.1.size : Int) + 1)) + bt114.1)) + 1)) : Int).toNat a0.size, 0)) else (none)) else (none)) else (none)) else (some ((⟨#[]⟩ : ByteArray), a0, 10))) else (none)) else (none)))) else (some ((⟨#[]⟩ : ByteArray), a0, 10))) else (some ((⟨#[]⟩ : ByteArray), a0, 10))))) else (none)) else (none)) = some (r1, r2, r3) := h
  clear h
  obtain ⟨ji2, hji2⟩ : ∃ j_ : Int, (mn (a0.size : Int) 1048576) = j_ := ⟨_, rfl⟩
  replace H : (if 0 ≤ (ji2) then (if (ji2) ≤ (a0.size : Int) then ((strings_Cut.f (a0.extract 0 ((ji2) : Int).toNat) (⟨#[58]⟩ : ByteArray)).bind fun bt111 => ((knot_Int.f bt111.1).bind fun bt114 => (if bt111.2.2 = true then (if bt114.2 = 0 then (if bt114.1 < 0 then (some ((⟨#[]⟩ : ByteArray), a0, 10)) else (if bt114.1 ≥ (bt111.2.1.size : Int) then (some ((⟨#[]⟩ : ByteArray), a0, 10)) else (if 0 ≤ bt114.1 then (if bt114.1 < (bt111.2.1.size : Int) then (if (bt bt111.2.1 bt114.1) = 44 then (if bt114.1 ≤ (bt111.2.1.size : Int) then (if 0 ≤ (wrap64 ((wrap64 ((wrap64 ((bt111.1.size : Int) + 1)) + bt114.1)) + 1)) then (if (wrap64 ((wrap64 ((wrap64 ((bt111.1.size : Int) + 1)) + bt114.1)) + 1)) ≤ (a0.size : Int) then (some (bt111.2.1.extract 0 (bt114.1 : Int).toNat, a0.extract ((wrap64 ((wrap64 ((wrap64 ((bt111.1.size : Int) + 1)) + bt114.1)) + 1)) : Int).toNat a0.size, 0)) else (none)) else (none)) else (none)) else (some ((⟨#[]⟩ : ByteArray), a0, 10))) else (none)) else (none)))) else (some ((⟨#[]⟩ : ByteArray), a0, 10))) else (some ((⟨#[]⟩ : ByteArray), a0, 10))))) else (none)) else (none)) = some (r1, r2, r3) := by first | (rw [hji2] at H; exact H) | (simp only [hji2] at H ⊢; exact H)
  (try (have hji2h : ji2 ≤ 1048576 := by (rw [← hji2]; unfold mn; (repeat' split) <;> omega)))
  (try (have hji2g : ji2 ≤ 64 := by omega))
  (try (have hji2l : 0 ≤ ji2 := by (rw [← hji2]; unfold mn; (repeat' split) <;> omega)))
  (try (have hji2m : 0 ≤ ji2 := by omega))
  have hji2_ : (if 1048576 < (a0.size : Int) then 1048576 else (a0.size : Int)) = ji2 := hji2
  by_cases c3 : 0 ≤ (ji2)
  · rw [if_pos c3] at H
    have c3b0 := eq_true c3
    have c3b1 : decide (0 ≤ (ji2)) = true := decide_eq_true c3
    clear c3
    by_cases c4 : (ji2) ≤ (a0.size : Int)
    · rw [if_pos c4] at H
      have c4b0 := eq_true c4
      have c4b1 : decide ((ji2) ≤ (a0.size : Int)) = true := decide_eq_true c4
      clear c4
      replace H := Option.bind_eq_some_iff.mp H
      obtain ⟨⟨t111, t112, t113⟩, A50, H⟩ := H
      replace H : ((knot_Int.f t111).bind fun bt114 => (if t113 = true then (if bt114.2 = 0 then (if bt114.1 < 0 then (some ((⟨#[]⟩ : ByteArray), a0, 10)) else (if bt114.1 ≥ (t112.size : Int) then (some ((⟨#[]⟩ : ByteArray), a0, 10)) else (if 0 ≤ bt114.1 then (if bt114.1 < (t112.size : Int) then (if (bt t112 bt114.1) = 44 then (if bt114.1 ≤ (t112.size : Int) then (if 0 ≤ (wrap64 ((wrap64 ((wrap64 ((t111.size : Int) + 1)) + bt114.1)) + 1)) then (if (wrap64 ((wrap64 ((wrap64 ((t111.size : Int) + 1)) + bt114.1)) + 1)) ≤ (a0.size : Int) then (some (t112.extract 0 (bt114.1 : Int).toNat, a0.extract ((wrap64 ((wrap64 ((wrap64 ((t111.size : Int) + 1)) + bt114.1)) + 1)) : Int).toNat a0.size, 0)) else (none)) else (none)) else (none)) else (some ((⟨#[]⟩ : ByteArray), a0, 10))) else (none)) else (none)))) else (some ((⟨#[]⟩ : ByteArray), a0, 10))) else (some ((⟨#[]⟩ : ByteArray), a0, 10)))) = some (r1, r2, r3) := H
      have A5 := Aside0.mk A50
      clear A50
      replace H := Option.bind_eq_some_iff.mp H
      obtain ⟨⟨t114, t115⟩, A60, H⟩ := H
      replace H : (if t113 = true then (if t115 = 0 then (if t114 < 0 then (some ((⟨#[]⟩ : ByteArray), a0, 10)) else (if t114 ≥ (t112.size : Int) then (some ((⟨#[]⟩ : ByteArray), a0, 10)) else (if 0 ≤ t114 then (if t114 < (t112.size : Int) then (if (bt t112 t114) = 44 then (if t114 ≤ (t112.size : Int) then (if 0 ≤ (wrap64 ((wrap64 ((wrap64 ((t111.size : Int) + 1)) + t114)) + 1)) then (if (wrap64 ((wrap64 ((wrap64 ((t111.size : Int) + 1)) + t114)) + 1)) ≤ (a0.size : Int) then (some (t112.extract 0 (t114 : Int).toNat, a0.extract ((wrap64 ((wrap64 ((wrap64 ((t111.size : Int) + 1)) + t114)) + 1)) : Int).toNat a0.size, 0)) else (none)) else (none)) else (none)) else (some ((⟨#[]⟩ : ByteArray), a0, 10))) else (none)) else (none)))) else (some ((⟨#[]⟩ : ByteArray), a0, 10))) else (some ((⟨#[]⟩ : ByteArray), a0, 10))) = some (r1, r2, r3) := H
      have A6 := Aside0.mk A60
      clear A60
      by_cases c7 : t113 = true
      · subst c7
        have H1 : (if t115 = 0 then (if t114 < 0 then (some ((⟨#[]⟩ : ByteArray), a0, 10)) else (if t114 ≥ (t112.size : Int) then (some ((⟨#[]⟩ : ByteArray), a0, 10)) else (if 0 ≤ t114 then (if t114 < (t112.size : Int) then (if (bt t112 t114) = 44 then (if t114 ≤ (t112.size : Int) then (if 0 ≤ (wrap64 ((wrap64 ((wrap64 ((t111.size : Int) + 1)) + t114)) + 1)) then (if (wrap64 ((wrap64 ((wrap64 ((t111.size : Int) + 1)) + t114)) + 1)) ≤ (a0.size : Int) then (some (t112.extract 0 (t114 : Int).toNat, a0.extract ((wrap64 ((wrap64 ((wrap64 ((t111.size : Int) + 1)) + t114)) + 1)) : Int).toNat a0.size, 0)) else (none)) else (none)) else (none)) else (some ((⟨#[]⟩ : ByteArray), a0, 10))) else (none)) else (none)))) else (some ((⟨#[]⟩ : ByteArray), a0, 10))) = some (r1, r2, r3) := by rw [if_pos rfl] at H; exact H
        clear H
        have H := H1
        clear H1
        by_cases c8 : t115 = 0
        · rw [if_pos c8] at H
          have c8b0 : (t115 == 0) = true := beq_iff_eq.mpr c8
          have c8b1 : (t115 != 0) = false := bne_eq_false_iff_eq.mpr c8
          clear c8
          by_cases c9 : t114 < 0
          · rw [if_pos c9] at H
            have c9b0 : decide (t114 < 0) = true := decide_eq_true c9
            clear c9
            simp only [Option.some.injEq, Prod.mk.injEq] at H
            obtain ⟨rfl, rfl, rfl⟩ := H
            go_enter Tryz.func89, Tryz.ntmps89
            go_wp2_with (first | (go_at_call 107; (with_reducible refine (strings_Cut.calls (a0.extract 0 ((ji2) : Int).toNat) (⟨#[58]⟩ : ByteArray) t111 t112 true _ A5.out (gl_below HG.out (by repeat (first | (with_reducible first | exact HB.out | apply below_alloc | apply pw_below_drewN | apply below_drew1) | exact HB.out)))).mono ?_); rintro e w' ⟨rfl, ⟨nd, rfl⟩⟩; (try first | exact ⟨rfl, _, World.drewN_drewN _ _ _⟩ | exact ⟨rfl, _, Eq.trans (World.drewN_drewN _ _ _) (congrArg (World.drewN _) (Nat.add_assoc _ _ _))⟩)) | (go_at_call 104; (with_reducible refine (knot_Int.calls t111 t114 t115 _ A6.out (gl_below HG.out (by repeat (first | (with_reducible first | exact HB.out | apply below_alloc | apply pw_below_drewN | apply below_drew1) | exact HB.out)))).mono ?_); rintro e w10 ⟨rfl, hb⟩; have n0_ := Aside0.mk (below_step (by repeat (first | (with_reducible first | exact HB.out | apply below_alloc | apply pw_below_drewN | apply below_drew1) | exact HB.out)) hb); clear HB; have HB := n0_; clear n0_; (try clear hb); (try clear hb2); (try clear hk); (try clear hi)))
            repeat (go_quiet (first | (go_at_call 107; (with_reducible refine (strings_Cut.calls (a0.extract 0 ((ji2) : Int).toNat) (⟨#[58]⟩ : ByteArray) t111 t112 true _ A5.out (gl_below HG.out (by repeat (first | (with_reducible first | exact HB.out | apply below_alloc | apply pw_below_drewN | apply below_drew1) | exact HB.out)))).mono ?_); rintro e w' ⟨rfl, ⟨nd, rfl⟩⟩; (try first | exact ⟨rfl, _, World.drewN_drewN _ _ _⟩ | exact ⟨rfl, _, Eq.trans (World.drewN_drewN _ _ _) (congrArg (World.drewN _) (Nat.add_assoc _ _ _))⟩)) | (go_at_call 104; (with_reducible refine (knot_Int.calls t111 t114 t115 _ A6.out (gl_below HG.out (by repeat (first | (with_reducible first | exact HB.out | apply below_alloc | apply pw_below_drewN | apply below_drew1) | exact HB.out)))).mono ?_); rintro e w10 ⟨rfl, hb⟩; have n0_ := Aside0.mk (below_step (by repeat (first | (with_reducible first | exact HB.out | apply below_alloc | apply pw_below_drewN | apply below_drew1) | exact HB.out)) hb); clear HB; have HB := n0_; clear n0_; (try clear hb); (try clear hb2); (try clear hk); (try clear hi))); try go_wp2_with (first | (go_at_call 107; (with_reducible refine (strings_Cut.calls (a0.extract 0 ((ji2) : Int).toNat) (⟨#[58]⟩ : ByteArray) t111 t112 true _ A5.out (gl_below HG.out (by repeat (first | (with_reducible first | exact HB.out | apply below_alloc | apply pw_below_drewN | apply below_drew1) | exact HB.out)))).mono ?_); rintro e w' ⟨rfl, ⟨nd, rfl⟩⟩; (try first | exact ⟨rfl, _, World.drewN_drewN _ _ _⟩ | exact ⟨rfl, _, Eq.trans (World.drewN_drewN _ _ _) (congrArg (World.drewN _) (Nat.add_assoc _ _ _))⟩)) | (go_at_call 104; (with_reducible refine (knot_Int.calls t111 t114 t115 _ A6.out (gl_below HG.out (by repeat (first | (with_reducible first | exact HB.out | apply below_alloc | apply pw_below_drewN | apply below_drew1) | exact HB.out)))).mono ?_); rintro e w10 ⟨rfl, hb⟩; have n0_ := Aside0.mk (below_step (by repeat (first | (with_reducible first | exact HB.out | apply below_alloc | apply pw_below_drewN | apply below_drew1) | exact HB.out)) hb); clear HB; have HB := n0_; clear n0_; (try clear hb); (try clear hb2); (try clear hk); (try clear hi))))
            go_ret3
            exact ⟨by first | rfl | (simp [errW_none, errW_some] <;> rfl) | (simp only [← hji2]; first | rfl | (simp [errW_none, errW_some] <;> rfl)) | (simp [*, errW_none, errW_some] <;> rfl), by repeat (first | (with_reducible first | exact HB.out | apply below_alloc | apply pw_below_drewN | apply below_drew1) | exact HB.out)⟩
          · rw [if_neg c9] at H
            have c9b0 : decide (t114 < 0) = false := decide_eq_false c9
            clear c9
            by_cases c11 : t114 ≥ (t112.size : Int)
            · rw [if_pos c11] at H
              have c11b0 : decide ((t112.size : Int) ≤ t114) = true := decide_eq_true c11
              clear c11
              simp only [Option.some.injEq, Prod.mk.injEq] at H
              obtain ⟨rfl, rfl, rfl⟩ := H
              go_enter Tryz.func89, Tryz.ntmps89
              go_wp2_with (first | (go_at_call 107; (with_reducible refine (strings_Cut.calls (a0.extract 0 ((ji2) : Int).toNat) (⟨#[58]⟩ : ByteArray) t111 t112 true _ A5.out (gl_below HG.out (by repeat (first | (with_reducible first | exact HB.out | apply below_alloc | apply pw_below_drewN | apply below_drew1) | exact HB.out)))).mono ?_); rintro e w' ⟨rfl, ⟨nd, rfl⟩⟩; (try first | exact ⟨rfl, _, World.drewN_drewN _ _ _⟩ | exact ⟨rfl, _, Eq.trans (World.drewN_drewN _ _ _) (congrArg (World.drewN _) (Nat.add_assoc _ _ _))⟩)) | (go_at_call 104; (with_reducible refine (knot_Int.calls t111 t114 t115 _ A6.out (gl_below HG.out (by repeat (first | (with_reducible first | exact HB.out | apply below_alloc | apply pw_below_drewN | apply below_drew1) | exact HB.out)))).mono ?_); rintro e w12 ⟨rfl, hb⟩; have n0_ := Aside0.mk (below_step (by repeat (first | (with_reducible first | exact HB.out | apply below_alloc | apply pw_below_drewN | apply below_drew1) | exact HB.out)) hb); clear HB; have HB := n0_; clear n0_; (try clear hb); (try clear hb2); (try clear hk); (try clear hi)))
              repeat (go_quiet (first | (go_at_call 107; (with_reducible refine (strings_Cut.calls (a0.extract 0 ((ji2) : Int).toNat) (⟨#[58]⟩ : ByteArray) t111 t112 true _ A5.out (gl_below HG.out (by repeat (first | (with_reducible first | exact HB.out | apply below_alloc | apply pw_below_drewN | apply below_drew1) | exact HB.out)))).mono ?_); rintro e w' ⟨rfl, ⟨nd, rfl⟩⟩; (try first | exact ⟨rfl, _, World.drewN_drewN _ _ _⟩ | exact ⟨rfl, _, Eq.trans (World.drewN_drewN _ _ _) (congrArg (World.drewN _) (Nat.add_assoc _ _ _))⟩)) | (go_at_call 104; (with_reducible refine (knot_Int.calls t111 t114 t115 _ A6.out (gl_below HG.out (by repeat (first | (with_reducible first | exact HB.out | apply below_alloc | apply pw_below_drewN | apply below_drew1) | exact HB.out)))).mono ?_); rintro e w12 ⟨rfl, hb⟩; have n0_ := Aside0.mk (below_step (by repeat (first | (with_reducible first | exact HB.out | apply below_alloc | apply pw_below_drewN | apply below_drew1) | exact HB.out)) hb); clear HB; have HB := n0_; clear n0_; (try clear hb); (try clear hb2); (try clear hk); (try clear hi))); try go_wp2_with (first | (go_at_call 107; (with_reducible refine (strings_Cut.calls (a0.extract 0 ((ji2) : Int).toNat) (⟨#[58]⟩ : ByteArray) t111 t112 true _ A5.out (gl_below HG.out (by repeat (first | (with_reducible first | exact HB.out | apply below_alloc | apply pw_below_drewN | apply below_drew1) | exact HB.out)))).mono ?_); rintro e w' ⟨rfl, ⟨nd, rfl⟩⟩; (try first | exact ⟨rfl, _, World.drewN_drewN _ _ _⟩ | exact ⟨rfl, _, Eq.trans (World.drewN_drewN _ _ _) (congrArg (World.drewN _) (Nat.add_assoc _ _ _))⟩)) | (go_at_call 104; (with_reducible refine (knot_Int.calls t111 t114 t115 _ A6.out (gl_below HG.out (by repeat (first | (with_reducible first | exact HB.out | apply below_alloc | apply pw_below_drewN | apply below_drew1) | exact HB.out)))).mono ?_); rintro e w12 ⟨rfl, hb⟩; have n0_ := Aside0.mk (below_step (by repeat (first | (with_reducible first | exact HB.out | apply below_alloc | apply pw_below_drewN | apply below_drew1) | exact HB.out)) hb); clear HB; have HB := n0_; clear n0_; (try clear hb); (try clear hb2); (try clear hk); (try clear hi))))
              go_ret3
              exact ⟨by first | rfl | (simp [errW_none, errW_some] <;> rfl) | (simp only [← hji2]; first | rfl | (simp [errW_none, errW_some] <;> rfl)) | (simp [*, errW_none, errW_some] <;> rfl), by repeat (first | (with_reducible first | exact HB.out | apply below_alloc | apply pw_below_drewN | apply below_drew1) | exact HB.out)⟩
            · rw [if_neg c11] at H
              have c11b0 : decide ((t112.size : Int) ≤ t114) = false := decide_eq_false c11
              clear c11
              by_cases c13 : 0 ≤ t114
              · rw [if_pos c13] at H
                have c13b0 : decide (0 ≤ t114) = true := decide_eq_true c13
                clear c13
                by_cases c14 : t114 < (t112.size : Int)
                · rw [if_pos c14] at H
                  have c14b0 : decide (t114 < (t112.size : Int)) = true := decide_eq_true c14
                  clear c14
                  by_cases c16 : (bt t112 t114) = 44
                  · rw [if_pos c16] at H
                    have c16b0 : ((bt t112 t114) == 44) = true := beq_iff_eq.mpr c16
                    have c16b1 : ((bt t112 t114) != 44) = false := bne_eq_false_iff_eq.mpr c16
                    clear c16
                    have c17b0 := eq_true (of_decide_eq_true (by first | (with_reducible assumption) | assumption) : 0 ≤ t114)
                    by_cases c18 : t114 ≤ (t112.size : Int)
                    · rw [if_pos c18] at H
                      have c18b0 := eq_true c18
                      have c18b1 : decide (t114 ≤ (t112.size : Int)) = true := decide_eq_true c18
                      clear c18
                      obtain ⟨ji19, hji19⟩ : ∃ j_ : Int, (wrap64 ((wrap64 ((wrap64 ((t111.size : Int) + 1)) + t114)) + 1)) = j_ := ⟨_, rfl⟩
                      replace H : (if 0 ≤ (ji19) then (if (ji19) ≤ (a0.size : Int) then (some (t112.extract 0 (t114 : Int).toNat, a0.extract ((ji19) : Int).toNat a0.size, 0)) else (none)) else (none)) = some (r1, r2, r3) := by first | (rw [hji19] at H; exact H) | (simp only [hji19] at H ⊢; exact H)
                      (try rw [hji19] at A5)
                      (try rw [hji19] at A6)
                      have hji19w : (IntKind.i64.wrap ((wrap64 ((wrap64 ((t111.size : Int) + 1)) + t114)) + 1)) = ji19 := (i64_w _).trans hji19
                      by_cases c20 : 0 ≤ (ji19)
                      · rw [if_pos c20] at H
                        have c20b0 := eq_true c20
                        have c20b1 : decide (0 ≤ (ji19)) = true := decide_eq_true c20
                        clear c20
                        by_cases c21 : (ji19) ≤ (a0.size : Int)
                        · rw [if_pos c21] at H
                          have c21b0 := eq_true c21
                          have c21b1 : decide ((ji19) ≤ (a0.size : Int)) = true := decide_eq_true c21
                          clear c21
                          simp only [Option.some.injEq, Prod.mk.injEq] at H
                          obtain ⟨rfl, rfl, rfl⟩ := H
                          go_enter Tryz.func89, Tryz.ntmps89
                          go_wp2_with (first | (go_at_call 107; (with_reducible refine (strings_Cut.calls (a0.extract 0 ((ji2) : Int).toNat) (⟨#[58]⟩ : ByteArray) t111 t112 true _ A5.out (gl_below HG.out (by repeat (first | (with_reducible first | exact HB.out | apply below_alloc | apply pw_below_drewN | apply below_drew1) | exact HB.out)))).mono ?_); rintro e w' ⟨rfl, ⟨nd, rfl⟩⟩; (try first | exact ⟨rfl, _, World.drewN_drewN _ _ _⟩ | exact ⟨rfl, _, Eq.trans (World.drewN_drewN _ _ _) (congrArg (World.drewN _) (Nat.add_assoc _ _ _))⟩)) | (go_at_call 104; (with_reducible refine (knot_Int.calls t111 t114 t115 _ A6.out (gl_below HG.out (by repeat (first | (with_reducible first | exact HB.out | apply below_alloc | apply pw_below_drewN | apply below_drew1) | exact HB.out)))).mono ?_); rintro e w22 ⟨rfl, hb⟩; have n0_ := Aside0.mk (below_step (by repeat (first | (with_reducible first | exact HB.out | apply below_alloc | apply pw_below_drewN | apply below_drew1) | exact HB.out)) hb); clear HB; have HB := n0_; clear n0_; (try clear hb); (try clear hb2); (try clear hk); (try clear hi); have p15 : 0 ≤ (t114 : Int) := of_decide_eq_true (by first | (with_reducible assumption) | assumption); have q15 : t114 < (t112.size : Int) := of_decide_eq_true (by first | (with_reducible assumption) | assumption); have hx15 := bt_at t112 t114; replace p15 := eq_true p15; replace q15 := eq_true q15))
                          repeat (go_quiet (first | (go_at_call 107; (with_reducible refine (strings_Cut.calls (a0.extract 0 ((ji2) : Int).toNat) (⟨#[58]⟩ : ByteArray) t111 t112 true _ A5.out (gl_below HG.out (by repeat (first | (with_reducible first | exact HB.out | apply below_alloc | apply pw_below_drewN | apply below_drew1) | exact HB.out)))).mono ?_); rintro e w' ⟨rfl, ⟨nd, rfl⟩⟩; (try first | exact ⟨rfl, _, World.drewN_drewN _ _ _⟩ | exact ⟨rfl, _, Eq.trans (World.drewN_drewN _ _ _) (congrArg (World.drewN _) (Nat.add_assoc _ _ _))⟩)) | (go_at_call 104; (with_reducible refine (knot_Int.calls t111 t114 t115 _ A6.out (gl_below HG.out (by repeat (first | (with_reducible first | exact HB.out | apply below_alloc | apply pw_below_drewN | apply below_drew1) | exact HB.out)))).mono ?_); rintro e w22 ⟨rfl, hb⟩; have n0_ := Aside0.mk (below_step (by repeat (first | (with_reducible first | exact HB.out | apply below_alloc | apply pw_below_drewN | apply below_drew1) | exact HB.out)) hb); clear HB; have HB := n0_; clear n0_; (try clear hb); (try clear hb2); (try clear hk); (try clear hi); have p15 : 0 ≤ (t114 : Int) := of_decide_eq_true (by first | (with_reducible assumption) | assumption); have q15 : t114 < (t112.size : Int) := of_decide_eq_true (by first | (with_reducible assumption) | assumption); have hx15 := bt_at t112 t114; replace p15 := eq_true p15; replace q15 := eq_true q15)); try go_wp2_with (first | (go_at_call 107; (with_reducible refine (strings_Cut.calls (a0.extract 0 ((ji2) : Int).toNat) (⟨#[58]⟩ : ByteArray) t111 t112 true _ A5.out (gl_below HG.out (by repeat (first | (with_reducible first | exact HB.out | apply below_alloc | apply pw_below_drewN | apply below_drew1) | exact HB.out)))).mono ?_); rintro e w' ⟨rfl, ⟨nd, rfl⟩⟩; (try first | exact ⟨rfl, _, World.drewN_drewN _ _ _⟩ | exact ⟨rfl, _, Eq.trans (World.drewN_drewN _ _ _) (congrArg (World.drewN _) (Nat.add_assoc _ _ _))⟩)) | (go_at_call 104; (with_reducible refine (knot_Int.calls t111 t114 t115 _ A6.out (gl_below HG.out (by repeat (first | (with_reducible first | exact HB.out | apply below_alloc | apply pw_below_drewN | apply below_drew1) | exact HB.out)))).mono ?_); rintro e w22 ⟨rfl, hb⟩; have n0_ := Aside0.mk (below_step (by repeat (first | (with_reducible first | exact HB.out | apply below_alloc | apply pw_below_drewN | apply below_drew1) | exact HB.out)) hb); clear HB; have HB := n0_; clear n0_; (try clear hb); (try clear hb2); (try clear hk); (try clear hi); have p15 : 0 ≤ (t114 : Int) := of_decide_eq_true (by first | (with_reducible assumption) | assumption); have q15 : t114 < (t112.size : Int) := of_decide_eq_true (by first | (with_reducible assumption) | assumption); have hx15 := bt_at t112 t114; replace p15 := eq_true p15; replace q15 := eq_true q15)))
                          go_ret3
                          exact ⟨by first | rfl | (simp [errW_none, errW_some] <;> rfl) | (simp only [← hji2, ← hji19]; first | rfl | (simp [errW_none, errW_some] <;> rfl)) | (simp [*, errW_none, errW_some] <;> rfl), by repeat (first | (with_reducible first | exact HB.out | apply below_alloc | apply pw_below_drewN | apply below_drew1) | exact HB.out)⟩
                        · rw [if_neg c21] at H
                          exact absurd H (by simp)
                      · rw [if_neg c20] at H
                        exact absurd H (by simp)
                    · rw [if_neg c18] at H
                      exact absurd H (by simp)
                  · rw [if_neg c16] at H
                    have c16b0 : ((bt t112 t114) == 44) = false := beq_eq_false_iff_ne.mpr c16
                    have c16b1 : ((bt t112 t114) != 44) = true := bne_iff_ne.mpr c16
                    simp only [Option.some.injEq, Prod.mk.injEq] at H
                    obtain ⟨rfl, rfl, rfl⟩ := H
                    go_enter Tryz.func89, Tryz.ntmps89
                    go_wp2_with (first | (go_at_call 107; (with_reducible refine (strings_Cut.calls (a0.extract 0 ((ji2) : Int).toNat) (⟨#[58]⟩ : ByteArray) t111 t112 true _ A5.out (gl_below HG.out (by repeat (first | (with_reducible first | exact HB.out | apply below_alloc | apply pw_below_drewN | apply below_drew1) | exact HB.out)))).mono ?_); rintro e w' ⟨rfl, ⟨nd, rfl⟩⟩; (try first | exact ⟨rfl, _, World.drewN_drewN _ _ _⟩ | exact ⟨rfl, _, Eq.trans (World.drewN_drewN _ _ _) (congrArg (World.drewN _) (Nat.add_assoc _ _ _))⟩)) | (go_at_call 104; (with_reducible refine (knot_Int.calls t111 t114 t115 _ A6.out (gl_below HG.out (by repeat (first | (with_reducible first | exact HB.out | apply below_alloc | apply pw_below_drewN | apply below_drew1) | exact HB.out)))).mono ?_); rintro e w23 ⟨rfl, hb⟩; have n0_ := Aside0.mk (below_step (by repeat (first | (with_reducible first | exact HB.out | apply below_alloc | apply pw_below_drewN | apply below_drew1) | exact HB.out)) hb); clear HB; have HB := n0_; clear n0_; (try clear hb); (try clear hb2); (try clear hk); (try clear hi); have p15 : 0 ≤ (t114 : Int) := of_decide_eq_true (by first | (with_reducible assumption) | assumption); have q15 : t114 < (t112.size : Int) := of_decide_eq_true (by first | (with_reducible assumption) | assumption); have hx15 := bt_at t112 t114; replace p15 := eq_true p15; replace q15 := eq_true q15))
                    repeat (go_quiet (first | (go_at_call 107; (with_reducible refine (strings_Cut.calls (a0.extract 0 ((ji2) : Int).toNat) (⟨#[58]⟩ : ByteArray) t111 t112 true _ A5.out (gl_below HG.out (by repeat (first | (with_reducible first | exact HB.out | apply below_alloc | apply pw_below_drewN | apply below_drew1) | exact HB.out)))).mono ?_); rintro e w' ⟨rfl, ⟨nd, rfl⟩⟩; (try first | exact ⟨rfl, _, World.drewN_drewN _ _ _⟩ | exact ⟨rfl, _, Eq.trans (World.drewN_drewN _ _ _) (congrArg (World.drewN _) (Nat.add_assoc _ _ _))⟩)) | (go_at_call 104; (with_reducible refine (knot_Int.calls t111 t114 t115 _ A6.out (gl_below HG.out (by repeat (first | (with_reducible first | exact HB.out | apply below_alloc | apply pw_below_drewN | apply below_drew1) | exact HB.out)))).mono ?_); rintro e w23 ⟨rfl, hb⟩; have n0_ := Aside0.mk (below_step (by repeat (first | (with_reducible first | exact HB.out | apply below_alloc | apply pw_below_drewN | apply below_drew1) | exact HB.out)) hb); clear HB; have HB := n0_; clear n0_; (try clear hb); (try clear hb2); (try clear hk); (try clear hi); have p15 : 0 ≤ (t114 : Int) := of_decide_eq_true (by first | (with_reducible assumption) | assumption); have q15 : t114 < (t112.size : Int) := of_decide_eq_true (by first | (with_reducible assumption) | assumption); have hx15 := bt_at t112 t114; replace p15 := eq_true p15; replace q15 := eq_true q15)); try go_wp2_with (first | (go_at_call 107; (with_reducible refine (strings_Cut.calls (a0.extract 0 ((ji2) : Int).toNat) (⟨#[58]⟩ : ByteArray) t111 t112 true _ A5.out (gl_below HG.out (by repeat (first | (with_reducible first | exact HB.out | apply below_alloc | apply pw_below_drewN | apply below_drew1) | exact HB.out)))).mono ?_); rintro e w' ⟨rfl, ⟨nd, rfl⟩⟩; (try first | exact ⟨rfl, _, World.drewN_drewN _ _ _⟩ | exact ⟨rfl, _, Eq.trans (World.drewN_drewN _ _ _) (congrArg (World.drewN _) (Nat.add_assoc _ _ _))⟩)) | (go_at_call 104; (with_reducible refine (knot_Int.calls t111 t114 t115 _ A6.out (gl_below HG.out (by repeat (first | (with_reducible first | exact HB.out | apply below_alloc | apply pw_below_drewN | apply below_drew1) | exact HB.out)))).mono ?_); rintro e w23 ⟨rfl, hb⟩; have n0_ := Aside0.mk (below_step (by repeat (first | (with_reducible first | exact HB.out | apply below_alloc | apply pw_below_drewN | apply below_drew1) | exact HB.out)) hb); clear HB; have HB := n0_; clear n0_; (try clear hb); (try clear hb2); (try clear hk); (try clear hi); have p15 : 0 ≤ (t114 : Int) := of_decide_eq_true (by first | (with_reducible assumption) | assumption); have q15 : t114 < (t112.size : Int) := of_decide_eq_true (by first | (with_reducible assumption) | assumption); have hx15 := bt_at t112 t114; replace p15 := eq_true p15; replace q15 := eq_true q15)))
                    go_ret3
                    exact ⟨by first | rfl | (simp [errW_none, errW_some] <;> rfl) | (simp only [← hji2]; first | rfl | (simp [errW_none, errW_some] <;> rfl)) | (simp [*, errW_none, errW_some] <;> rfl), by repeat (first | (with_reducible first | exact HB.out | apply below_alloc | apply pw_below_drewN | apply below_drew1) | exact HB.out)⟩
                · rw [if_neg c14] at H
                  exact absurd H (by simp)
              · rw [if_neg c13] at H
                exact absurd H (by simp)
        · rw [if_neg c8] at H
          have c8b0 : (t115 == 0) = false := beq_eq_false_iff_ne.mpr c8
          have c8b1 : (t115 != 0) = true := bne_iff_ne.mpr c8
          simp only [Option.some.injEq, Prod.mk.injEq] at H
          obtain ⟨rfl, rfl, rfl⟩ := H
          go_enter Tryz.func89, Tryz.ntmps89
          go_wp2_with (first | (go_at_call 107; (with_reducible refine (strings_Cut.calls (a0.extract 0 ((ji2) : Int).toNat) (⟨#[58]⟩ : ByteArray) t111 t112 true _ A5.out (gl_below HG.out (by repeat (first | (with_reducible first | exact HB.out | apply below_alloc | apply pw_below_drewN | apply below_drew1) | exact HB.out)))).mono ?_); rintro e w' ⟨rfl, ⟨nd, rfl⟩⟩; (try first | exact ⟨rfl, _, World.drewN_drewN _ _ _⟩ | exact ⟨rfl, _, Eq.trans (World.drewN_drewN _ _ _) (congrArg (World.drewN _) (Nat.add_assoc _ _ _))⟩)) | (go_at_call 104; (with_reducible refine (knot_Int.calls t111 t114 t115 _ A6.out (gl_below HG.out (by repeat (first | (with_reducible first | exact HB.out | apply below_alloc | apply pw_below_drewN | apply below_drew1) | exact HB.out)))).mono ?_); rintro e w24 ⟨rfl, hb⟩; have n0_ := Aside0.mk (below_step (by repeat (first | (with_reducible first | exact HB.out | apply below_alloc | apply pw_below_drewN | apply below_drew1) | exact HB.out)) hb); clear HB; have HB := n0_; clear n0_; (try clear hb); (try clear hb2); (try clear hk); (try clear hi)))
          repeat (go_quiet (first | (go_at_call 107; (with_reducible refine (strings_Cut.calls (a0.extract 0 ((ji2) : Int).toNat) (⟨#[58]⟩ : ByteArray) t111 t112 true _ A5.out (gl_below HG.out (by repeat (first | (with_reducible first | exact HB.out | apply below_alloc | apply pw_below_drewN | apply below_drew1) | exact HB.out)))).mono ?_); rintro e w' ⟨rfl, ⟨nd, rfl⟩⟩; (try first | exact ⟨rfl, _, World.drewN_drewN _ _ _⟩ | exact ⟨rfl, _, Eq.trans (World.drewN_drewN _ _ _) (congrArg (World.drewN _) (Nat.add_assoc _ _ _))⟩)) | (go_at_call 104; (with_reducible refine (knot_Int.calls t111 t114 t115 _ A6.out (gl_below HG.out (by repeat (first | (with_reducible first | exact HB.out | apply below_alloc | apply pw_below_drewN | apply below_drew1) | exact HB.out)))).mono ?_); rintro e w24 ⟨rfl, hb⟩; have n0_ := Aside0.mk (below_step (by repeat (first | (with_reducible first | exact HB.out | apply below_alloc | apply pw_below_drewN | apply below_drew1) | exact HB.out)) hb); clear HB; have HB := n0_; clear n0_; (try clear hb); (try clear hb2); (try clear hk); (try clear hi))); try go_wp2_with (first | (go_at_call 107; (with_reducible refine (strings_Cut.calls (a0.extract 0 ((ji2) : Int).toNat) (⟨#[58]⟩ : ByteArray) t111 t112 true _ A5.out (gl_below HG.out (by repeat (first | (with_reducible first | exact HB.out | apply below_alloc | apply pw_below_drewN | apply below_drew1) | exact HB.out)))).mono ?_); rintro e w' ⟨rfl, ⟨nd, rfl⟩⟩; (try first | exact ⟨rfl, _, World.drewN_drewN _ _ _⟩ | exact ⟨rfl, _, Eq.trans (World.drewN_drewN _ _ _) (congrArg (World.drewN _) (Nat.add_assoc _ _ _))⟩)) | (go_at_call 104; (with_reducible refine (knot_Int.calls t111 t114 t115 _ A6.out (gl_below HG.out (by repeat (first | (with_reducible first | exact HB.out | apply below_alloc | apply pw_below_drewN | apply below_drew1) | exact HB.out)))).mono ?_); rintro e w24 ⟨rfl, hb⟩; have n0_ := Aside0.mk (below_step (by repeat (first | (with_reducible first | exact HB.out | apply below_alloc | apply pw_below_drewN | apply below_drew1) | exact HB.out)) hb); clear HB; have HB := n0_; clear n0_; (try clear hb); (try clear hb2); (try clear hk); (try clear hi))))
          go_ret3
          exact ⟨by first | rfl | (simp [errW_none, errW_some] <;> rfl) | (simp only [← hji2]; first | rfl | (simp [errW_none, errW_some] <;> rfl)) | (simp [*, errW_none, errW_some] <;> rfl), by repeat (first | (with_reducible first | exact HB.out | apply below_alloc | apply pw_below_drewN | apply below_drew1) | exact HB.out)⟩
      · replace c7 := Bool.eq_false_iff.mpr c7
        subst c7
        have H1 : (some ((⟨#[]⟩ : ByteArray), a0, 10)) = some (r1, r2, r3) := by rw [if_neg (show ¬ (false = true) by decide)] at H; exact H
        clear H
        have H := H1
        clear H1
        simp only [Option.some.injEq, Prod.mk.injEq] at H
        obtain ⟨rfl, rfl, rfl⟩ := H
        go_enter Tryz.func89, Tryz.ntmps89
        go_wp2_with (first | (go_at_call 107; (with_reducible refine (strings_Cut.calls (a0.extract 0 ((ji2) : Int).toNat) (⟨#[58]⟩ : ByteArray) t111 t112 false _ A5.out (gl_below HG.out (by repeat (first | (with_reducible first | exact HB.out | apply below_alloc | apply pw_below_drewN | apply below_drew1) | exact HB.out)))).mono ?_); rintro e w' ⟨rfl, ⟨nd, rfl⟩⟩; (try first | exact ⟨rfl, _, World.drewN_drewN _ _ _⟩ | exact ⟨rfl, _, Eq.trans (World.drewN_drewN _ _ _) (congrArg (World.drewN _) (Nat.add_assoc _ _ _))⟩)) | (go_at_call 104; (with_reducible refine (knot_Int.calls t111 t114 t115 _ A6.out (gl_below HG.out (by repeat (first | (with_reducible first | exact HB.out | apply below_alloc | apply pw_below_drewN | apply below_drew1) | exact HB.out)))).mono ?_); rintro e w25 ⟨rfl, hb⟩; have n0_ := Aside0.mk (below_step (by repeat (first | (with_reducible first | exact HB.out | apply below_alloc | apply pw_below_drewN | apply below_drew1) | exact HB.out)) hb); clear HB; have HB := n0_; clear n0_; (try clear hb); (try clear hb2); (try clear hk); (try clear hi)))
        repeat (go_quiet (first | (go_at_call 107; (with_reducible refine (strings_Cut.calls (a0.extract 0 ((ji2) : Int).toNat) (⟨#[58]⟩ : ByteArray) t111 t112 false _ A5.out (gl_below HG.out (by repeat (first | (with_reducible first | exact HB.out | apply below_alloc | apply pw_below_drewN | apply below_drew1) | exact HB.out)))).mono ?_); rintro e w' ⟨rfl, ⟨nd, rfl⟩⟩; (try first | exact ⟨rfl, _, World.drewN_drewN _ _ _⟩ | exact ⟨rfl, _, Eq.trans (World.drewN_drewN _ _ _) (congrArg (World.drewN _) (Nat.add_assoc _ _ _))⟩)) | (go_at_call 104; (with_reducible refine (knot_Int.calls t111 t114 t115 _ A6.out (gl_below HG.out (by repeat (first | (with_reducible first | exact HB.out | apply below_alloc | apply pw_below_drewN | apply below_drew1) | exact HB.out)))).mono ?_); rintro e w25 ⟨rfl, hb⟩; have n0_ := Aside0.mk (below_step (by repeat (first | (with_reducible first | exact HB.out | apply below_alloc | apply pw_below_drewN | apply below_drew1) | exact HB.out)) hb); clear HB; have HB := n0_; clear n0_; (try clear hb); (try clear hb2); (try clear hk); (try clear hi))); try go_wp2_with (first | (go_at_call 107; (with_reducible refine (strings_Cut.calls (a0.extract 0 ((ji2) : Int).toNat) (⟨#[58]⟩ : ByteArray) t111 t112 false _ A5.out (gl_below HG.out (by repeat (first | (with_reducible first | exact HB.out | apply below_alloc | apply pw_below_drewN | apply below_drew1) | exact HB.out)))).mono ?_); rintro e w' ⟨rfl, ⟨nd, rfl⟩⟩; (try first | exact ⟨rfl, _, World.drewN_drewN _ _ _⟩ | exact ⟨rfl, _, Eq.trans (World.drewN_drewN _ _ _) (congrArg (World.drewN _) (Nat.add_assoc _ _ _))⟩)) | (go_at_call 104; (with_reducible refine (knot_Int.calls t111 t114 t115 _ A6.out (gl_below HG.out (by repeat (first | (with_reducible first | exact HB.out | apply below_alloc | apply pw_below_drewN | apply below_drew1) | exact HB.out)))).mono ?_); rintro e w25 ⟨rfl, hb⟩; have n0_ := Aside0.mk (below_step (by repeat (first | (with_reducible first | exact HB.out | apply below_alloc | apply pw_below_drewN | apply below_drew1) | exact HB.out)) hb); clear HB; have HB := n0_; clear n0_; (try clear hb); (try clear hb2); (try clear hk); (try clear hi))))
        go_ret3
        exact ⟨by first | rfl | (simp [errW_none, errW_some] <;> rfl) | (simp only [← hji2]; first | rfl | (simp [errW_none, errW_some] <;> rfl)) | (simp [*, errW_none, errW_some] <;> rfl), by repeat (first | (with_reducible first | exact HB.out | apply below_alloc | apply pw_below_drewN | apply below_drew1) | exact HB.out)⟩
    · rw [if_neg c4] at H
      exact absurd H (by simp)
  · rw [if_neg c3] at H
    exact absurd H (by simp)

/-! ### knot_Untie: function 65 -/
def knot_Untie.l0 : Nat → ByteArray → List ByteArray → Option (List ByteArray × Int)
  | 0, _, _ => none
  | k + 1, x0, x2 => if x0.toList = ([] : List UInt8) then (some (x2, 0)) else ((knot_First.f x0).bind fun bt116 => (if bt116.2.2 = 0 then (if (x2.length : Int) ≥ 4096 then (some (([] : List ByteArray), 10)) else (if x2.length < 8796093022208 then (knot_Untie.l0 k bt116.2.1 (x2 ++ [bt116.1])) else (none))) else (some (([] : List ByteArray), 10))))
def knot_Untie.f (k : Nat) (a0 : ByteArray) : Option (List ByteArray × Int) := if (a0.size : Int) > 1048576 then (some (([] : List ByteArray), 10)) else (knot_Untie.l0 k a0 ([] : List ByteArray))
theorem knot_Untie.mono_l : ∀ k, (∀ y0 y1, LeO (knot_Untie.l0 k y0 y1) (knot_Untie.l0 (k + 1) y0 y1))
  | 0 => fun _ _ r h => by simp [knot_Untie.l0] at h
  | k + 1 => by
    have ih0 := knot_Untie.mono_l k
    · intro y0 y1
      unfold knot_Untie.l0
      repeat' first
      | (with_reducible exact ih0 _ _)
      | (with_reducible exact LeO.refl _)
      | (with_reducible exact LeO.none _)
      | (with_reducible refine LeO.ite ?_ ?_)
      | (with_reducible refine LeO.bind ?_ (fun _ => ?_))
      | exact ih0 _ _
      | exact LeO.none _
      | refine LeO.ite ?_ ?_
      | refine LeO.bind ?_ (fun _ => ?_)
theorem knot_Untie.mono : ∀ a0 k, LeO (knot_Untie.f k a0) (knot_Untie.f (k + 1) a0) := by
  intro a0 k
  have ih0 := knot_Untie.mono_l k
  unfold knot_Untie.f
  repeat' first
      | (with_reducible exact ih0 _ _)
      | (with_reducible exact LeO.refl _)
      | (with_reducible exact LeO.none _)
      | (with_reducible refine LeO.ite ?_ ?_)
      | (with_reducible refine LeO.bind ?_ (fun _ => ?_))
      | exact ih0 _ _
      | exact LeO.none _
      | refine LeO.ite ?_ ?_
      | refine LeO.bind ?_ (fun _ => ?_)
set_option maxHeartbeats 8000000 in
set_option maxRecDepth 100000 in
theorem knot_Untie.calls (k : Nat) (a0 : ByteArray) (r1 : List ByteArray) (r2 : Int) (w : World) (h : knot_Untie.f k a0 = some (r1, r2)) (hG : Gl w) :
    Calls Tryz.prog 65 #[.string a0] w fun e w' => ∃ v0_ : Value, e = .returned (.tuple #[v0_, .int .i64 r2]) ∧ Kd.R Kd.string 9 w' w.heap.size (fun _ => True) v0_ r1 ∧ Below w.heap.size w w' := by
  have HG := Aside0.mk hG
  clear hG
  have HB := Aside0.mk (Below.refl w.heap.size w)
  have H : (if (a0.size : Int) > 1048576 then (some (([] : List ByteArray), 10)) else (knot_Untie.l0 k a0 ([] : List ByteArray))) = some (r1, r2) := h
  clear h
  by_cases c2 : (a0.size : Int) > 1048576
  · rw [if_pos c2] at H
    have c2b0 : decide (1048576 < (a0.size : Int)) = true := decide_eq_true c2
    have c2b1 : decide (1048576 < a0.size) = true := decide_eq_true (by omega)
    clear c2
    simp only [Option.some.injEq, Prod.mk.injEq] at H
    obtain ⟨rfl, rfl⟩ := H
    go_enter Tryz.func65, Tryz.ntmps65
    go_wp2
    go_ret2
    exact ⟨_, by first | rfl | (simp [errW_none, errW_some] <;> rfl) | (simp [*, errW_none, errW_some] <;> rfl), by first | exact Kd.R_nil _ _ _ _ _ | exact Kd.N_nil _ _ _ _ _ | exact Kd.V_nil _ _ _ _ _ | exact Kd.Q_nil _ _ _ _ _ | exact Kd.S_nil _ _ _ _ _, by repeat (first | (with_reducible first | exact HB.out | apply below_alloc | apply pw_below_drewN | apply below_drew1) | exact HB.out)⟩
  · rw [if_neg c2] at H
    have c2b0 : decide (1048576 < (a0.size : Int)) = false := decide_eq_false c2
    have c2b1 : decide (1048576 < a0.size) = false := decide_eq_false (by omega)
    clear c2
    have H' := Aside0.mk H
    clear H
    go_enter Tryz.func65, Tryz.ntmps65
    go_wp2
    go_loopg [0, 2] k (fun kq v0 v2 w' => ∃ (x0_1 : ByteArray) (x2_1 : List ByteArray), v0 = .string x0_1 ∧ Aside0 (knot_Untie.l0 kq x0_1 x2_1 = some (r1, r2)) ∧ Aside0 (kq ≤ k) ∧ Aside0 (Kd.R Kd.string 9 w' w.heap.size (fun _ => True) v2 x2_1) ∧ Aside0 (Below w.heap.size w w'))
    case atStart => exact ⟨(a0), (([] : List ByteArray)), (by first | rfl | (simp; done) | (simp [*]; done)), H', ⟨Nat.le_refl _⟩, ⟨by first | exact Kd.R_nil _ _ _ _ _ | exact Kd.N_nil _ _ _ _ _ | exact Kd.V_nil _ _ _ _ _ | exact Kd.Q_nil _ _ _ _ _ | exact Kd.S_nil _ _ _ _ _⟩, ⟨by repeat (first | (with_reducible first | exact HB.out | apply below_alloc | apply pw_below_drewN | apply below_drew1) | exact HB.out)⟩⟩
    case round =>
      clear H'
      try clear c2
      try clear c2b0
      try clear c2b1
      try clear p2
      obtain ⟨x0_1, x2_1, rfl, HA, HK1, HO_2, HB⟩ := hrel
      cases gk with
      | zero => exact absurd HA.out (by simp [knot_Untie.l0])
      | succ k1 =>
        have H := HA.out
        clear HA
        simp only [knot_Untie.l0] at H
        by_cases c3 : x0_1.toList = ([] : List UInt8)
        · rw [if_pos c3] at H
          have c3b0 : (x0_1.toList == ([] : List UInt8)) = true := beq_iff_eq.mpr c3
          have c3b1 : (x0_1.toList != ([] : List UInt8)) = false := bne_eq_false_iff_eq.mpr c3
          clear c3
          simp only [Option.some.injEq, Prod.mk.injEq] at H
          obtain ⟨rfl, rfl⟩ := H
          go_wp2
          go_ret2
          exact ⟨_, by first | rfl | (simp [errW_none, errW_some] <;> rfl) | (simp [*, errW_none, errW_some] <;> rfl), by (with_reducible repeat (first | apply Kd.R_alloc | apply Kd.R_drewN | apply Kd.R_drew)); exact HO_2.out, by repeat (first | (with_reducible first | exact HB.out | apply below_alloc | apply pw_below_drewN | apply below_drew1) | exact HB.out)⟩
        · rw [if_neg c3] at H
          have c3b0 : (x0_1.toList == ([] : List UInt8)) = false := beq_eq_false_iff_ne.mpr c3
          have c3b1 : (x0_1.toList != ([] : List UInt8)) = true := bne_iff_ne.mpr c3
          replace H := Option.bind_eq_some_iff.mp H
          obtain ⟨⟨t116, t117, t118⟩, A40, H⟩ := H
          replace H : (if t118 = 0 then (if (x2_1.length : Int) ≥ 4096 then (some (([] : List ByteArray), 10)) else (if x2_1.length < 8796093022208 then (knot_Untie.l0 k1 t117 (x2_1 ++ [t116])) else (none))) else (some (([] : List ByteArray), 10))) = some (r1, r2) := H
          have A4 := Aside0.mk A40
          clear A40
          by_cases c5 : t118 = 0
          · rw [if_pos c5] at H
            have c5b0 : (t118 == 0) = true := beq_iff_eq.mpr c5
            have c5b1 : (t118 != 0) = false := bne_eq_false_iff_eq.mpr c5
            clear c5
            by_cases c6 : (x2_1.length : Int) ≥ 4096
            · rw [if_pos c6] at H
              have c6b0 : decide (4096 ≤ (x2_1.length : Int)) = true := decide_eq_true c6
              have c6b1 : decide (4096 ≤ x2_1.length) = true := decide_eq_true (by omega)
              clear c6
              simp only [Option.some.injEq, Prod.mk.injEq] at H
              obtain ⟨rfl, rfl⟩ := H
              go_wp2_with (first | ((with_reducible refine gate_callee (f := 89) rfl ?_); refine goesL_ (some 12) rfl rfl Tryz.func89 (by kernel_rfl) rfl #[.string x0_1] rfl (by (try simp only [List.map_toArray, List.map_cons, List.map_nil]); first | done | rfl | (simp only [List.length_drop, List.length_take]; rfl)) ?_; (with_reducible refine (knot_First.calls x0_1 t116 t117 t118 _ A4.out (gl_below HG.out (by repeat (first | (with_reducible first | exact HB.out | apply below_alloc | apply pw_below_drewN | apply below_drew1) | exact HB.out)))).mono ?_); rintro e w7 ⟨rfl, hb⟩; refine ⟨_, rfl, ?_⟩; have n0_ := Aside0.mk (Kd.R_below (by (with_reducible repeat (first | apply Kd.R_alloc | apply Kd.R_drewN | apply Kd.R_drew)); exact HO_2.out) hb); have n1_ := Aside0.mk (below_step (by repeat (first | (with_reducible first | exact HB.out | apply below_alloc | apply pw_below_drewN | apply below_drew1) | exact HB.out)) hb); clear HO_2; clear HB; have HO_2 := n0_; have HB := n1_; clear n0_ n1_; (try clear hb); (try clear hb2); (try clear hk); (try clear hi); obtain ⟨Ao8, co8, eo8⟩ := Kd.R_slice HO_2.out; subst eo8))
              go_ret2
              exact ⟨_, by first | rfl | (simp [errW_none, errW_some] <;> rfl) | (simp [*, errW_none, errW_some] <;> rfl), by first | exact Kd.R_nil _ _ _ _ _ | exact Kd.N_nil _ _ _ _ _ | exact Kd.V_nil _ _ _ _ _ | exact Kd.Q_nil _ _ _ _ _ | exact Kd.S_nil _ _ _ _ _, by repeat (first | (with_reducible first | exact HB.out | apply below_alloc | apply pw_below_drewN | apply below_drew1) | exact HB.out)⟩
            · rw [if_neg c6] at H
              have c6b0 : decide (4096 ≤ (x2_1.length : Int)) = false := decide_eq_false c6
              have c6b1 : decide (4096 ≤ x2_1.length) = false := decide_eq_false (by omega)
              clear c6
              by_cases c9 : x2_1.length < 8796093022208
              · rw [if_pos c9] at H
                have LMc9 := Aside0.mk c9
                clear c9
                obtain ⟨y119, hy119⟩ : ∃ y_ : List ByteArray, y_ = (x2_1 ++ [t116]) := ⟨_, rfl⟩
                replace H : (knot_Untie.l0 k1 t117 y119) = some (r1, r2) := by first | (rw [hy119]; with_reducible exact H) | (have H2_ := (Option.bind_some _ _).symm.trans H; rw [hy119]; with_reducible exact H2_) | (have H2_ := (Option.bind_some _ _).symm.trans H; with_reducible exact H2_) | with_reducible exact H | (rw [hy119]; exact H) | exact H
                have Ny119 := Aside0.mk hy119
                clear hy119
                have H' := Aside0.mk H
                clear H
                go_wp2_with (first | ((with_reducible refine gate_callee (f := 89) rfl ?_); refine goesL_ (some 12) rfl rfl Tryz.func89 (by kernel_rfl) rfl #[.string x0_1] rfl (by (try simp only [List.map_toArray, List.map_cons, List.map_nil]); first | done | rfl | (simp only [List.length_drop, List.length_take]; rfl)) ?_; (with_reducible refine (knot_First.calls x0_1 t116 t117 t118 _ A4.out (gl_below HG.out (by repeat (first | (with_reducible first | exact HB.out | apply below_alloc | apply pw_below_drewN | apply below_drew1) | exact HB.out)))).mono ?_); rintro e w10 ⟨rfl, hb⟩; refine ⟨_, rfl, ?_⟩; have n0_ := Aside0.mk (Kd.R_below (by (with_reducible repeat (first | apply Kd.R_alloc | apply Kd.R_drewN | apply Kd.R_drew)); exact HO_2.out) hb); have n1_ := Aside0.mk (below_step (by repeat (first | (with_reducible first | exact HB.out | apply below_alloc | apply pw_below_drewN | apply below_drew1) | exact HB.out)) hb); clear HO_2; clear HB; have HO_2 := n0_; have HB := n1_; clear n0_ n1_; (try clear hb); (try clear hb2); (try clear hk); (try clear hi); obtain ⟨Ao11, co11, eo11⟩ := Kd.R_slice HO_2.out; subst eo11) | ((with_reducible refine gate_builtin (b := .append) (xs := #[.tmp 23, .tmp 25]) rfl ?_); (try (refine gate_guard (by rfl) ?_; dsimp only)); at_builtin; refine Kd.R_append Kd.string (w0 := w) w.heap.size rfl (.tmp 23) (.tmp 25) 60 9 (.string ⟨#[]⟩) 16 rfl Tryz.underlying60 info9 rfl (by decide) (by omega) (.slice Ao11 x2_1.length co11) x2_1 t116 [.string t116] (fun _ => True) (fun _ => False) rfl rfl ?aP (fun _ hk => hk.elim) ?aF ?aO ?aB ?aS ?aL ?_; (case aP => exact rfl); (case aB => exact (by repeat (first | (with_reducible first | exact HB.out | apply below_alloc | apply pw_below_drewN | apply below_drew1) | exact HB.out))); (case aF => exact (fun _ _ => trivial)); (case aO => exact (by (with_reducible repeat (first | apply Kd.R_alloc | apply Kd.R_drewN | apply Kd.R_drew)); exact HO_2.out)); (case aS => exact (below_size (by repeat (first | (with_reducible first | exact HB.out | apply below_alloc | apply pw_below_drewN | apply below_drew1) | exact HB.out)))); (case aL => have := LMc9.out; omega); intro v120 w12 ho hb hg hat; rw [← Ny119.out] at ho; have n0_ := Aside0.mk (hb); have n1_ := Aside0.mk (ho); clear HB; clear HO_2; have HB := n0_; have HO121 := n1_; clear n0_ n1_; clear ho hb hg hat))
                go_roundg k1
                case measure => have := HK1.out; omega
                case rel => exact ⟨(t117), (y119), (by first | rfl | (simp; done) | (simp [*]; done)), H', ⟨by have := HK1.out; omega⟩, ⟨by (with_reducible repeat (first | apply Kd.R_alloc | apply Kd.R_drewN | apply Kd.R_drew)); exact HO121.out⟩, ⟨by repeat (first | (with_reducible first | exact HB.out | apply below_alloc | apply pw_below_drewN | apply below_drew1) | exact HB.out)⟩⟩
              · rw [if_neg c9] at H
                exact absurd H (by simp)
          · rw [if_neg c5] at H
            have c5b0 : (t118 == 0) = false := beq_eq_false_iff_ne.mpr c5
            have c5b1 : (t118 != 0) = true := bne_iff_ne.mpr c5
            simp only [Option.some.injEq, Prod.mk.injEq] at H
            obtain ⟨rfl, rfl⟩ := H
            go_wp2_with (first | ((with_reducible refine gate_callee (f := 89) rfl ?_); refine goesL_ (some 12) rfl rfl Tryz.func89 (by kernel_rfl) rfl #[.string x0_1] rfl (by (try simp only [List.map_toArray, List.map_cons, List.map_nil]); first | done | rfl | (simp only [List.length_drop, List.length_take]; rfl)) ?_; (with_reducible refine (knot_First.calls x0_1 t116 t117 t118 _ A4.out (gl_below HG.out (by repeat (first | (with_reducible first | exact HB.out | apply below_alloc | apply pw_below_drewN | apply below_drew1) | exact HB.out)))).mono ?_); rintro e w13 ⟨rfl, hb⟩; refine ⟨_, rfl, ?_⟩; have n0_ := Aside0.mk (Kd.R_below (by (with_reducible repeat (first | apply Kd.R_alloc | apply Kd.R_drewN | apply Kd.R_drew)); exact HO_2.out) hb); have n1_ := Aside0.mk (below_step (by repeat (first | (with_reducible first | exact HB.out | apply below_alloc | apply pw_below_drewN | apply below_drew1) | exact HB.out)) hb); clear HO_2; clear HB; have HO_2 := n0_; have HB := n1_; clear n0_ n1_; (try clear hb); (try clear hb2); (try clear hk); (try clear hi)))
            go_ret2
            exact ⟨_, by first | rfl | (simp [errW_none, errW_some] <;> rfl) | (simp [*, errW_none, errW_some] <;> rfl), by first | exact Kd.R_nil _ _ _ _ _ | exact Kd.N_nil _ _ _ _ _ | exact Kd.V_nil _ _ _ _ _ | exact Kd.Q_nil _ _ _ _ _ | exact Kd.S_nil _ _ _ _ _, by repeat (first | (with_reducible first | exact HB.out | apply below_alloc | apply pw_below_drewN | apply below_drew1) | exact HB.out)⟩

/-! ### knot_Open: function 103 -/
def knot_Open.f (a0 : ByteArray) : Option (ByteArray × Int) := if (wrap64 ((a0.size : Int) - 8)) < 0 then (some ((⟨#[]⟩ : ByteArray), 11)) else (if 0 ≤ (wrap64 ((a0.size : Int) - 8)) then (if (wrap64 ((a0.size : Int) - 8)) ≤ (a0.size : Int) then ((knot_Seal.f (a0.extract 0 ((wrap64 ((a0.size : Int) - 8)) : Int).toNat)).bind fun t122 => (if t122.toList = a0.toList then (some (a0.extract 0 ((wrap64 ((a0.size : Int) - 8)) : Int).toNat, 0)) else (some ((⟨#[]⟩ : ByteArray), 11)))) else (none)) else (none))
set_option maxHeartbeats 8000000 in
set_option maxRecDepth 100000 in
theorem knot_Open.calls (a0 : ByteArray) (r1 : ByteArray) (r2 : Int) (w : World) (h : knot_Open.f a0 = some (r1, r2)) (hG : Gl w) :
    Calls Tryz.prog 103 #[.string a0] w fun e w' => e = .returned (.tuple #[.string r1, .int .i64 r2]) ∧ Below w.heap.size w w' := by
  have HG := Aside0.mk hG
  clear hG
  have HB := Aside0.mk (Below.refl w.heap.size w)
  have H : (if (wrap64 ((a0.size : Int) - 8)) < 0 then (some ((⟨#[]⟩ : ByteArray), 11)) else (if 0 ≤ (wrap64 ((a0.size : Int) - 8)) then (if (wrap64 ((a0.size : Int) - 8)) ≤ (a0.size : Int) then ((knot_Seal.f (a0.extract 0 ((wrap64 ((a0.size : Int) - 8)) : Int).toNat)).bind fun t122 => (if t122.toList = a0.toList then (some (a0.extract 0 ((wrap64 ((a0.size : Int) - 8)) : Int).toNat, 0)) else (some ((⟨#[]⟩ : ByteArray), 11)))) else (none)) else (none))) = some (r1, r2) := h
  clear h
  by_cases c2 : (wrap64 ((a0.size : Int) - 8)) < 0
  · rw [if_pos c2] at H
    have c2b0 : decide ((wrap64 ((a0.size : Int) - 8)) < 0) = true := decide_eq_true c2
    clear c2
    simp only [Option.some.injEq, Prod.mk.injEq] at H
    obtain ⟨rfl, rfl⟩ := H
    go_enter Tryz.func103, Tryz.ntmps103
    go_wp2
    go_ret2
    exact ⟨by first | rfl | (simp [errW_none, errW_some] <;> rfl) | (simp [*, errW_none, errW_some] <;> rfl), by repeat (first | (with_reducible first | exact HB.out | apply below_alloc | apply pw_below_drewN | apply below_drew1) | exact HB.out)⟩
  · rw [if_neg c2] at H
    have c2b0 : decide ((wrap64 ((a0.size : Int) - 8)) < 0) = false := decide_eq_false c2
    clear c2
    obtain ⟨ji3, hji3⟩ : ∃ j_ : Int, (wrap64 ((a0.size : Int) - 8)) = j_ := ⟨_, rfl⟩
    replace H : (if 0 ≤ (ji3) then (if (ji3) ≤ (a0.size : Int) then ((knot_Seal.f (a0.extract 0 ((ji3) : Int).toNat)).bind fun t122 => (if t122.toList = a0.toList then (some (a0.extract 0 ((ji3) : Int).toNat, 0)) else (some ((⟨#[]⟩ : ByteArray), 11)))) else (none)) else (none)) = some (r1, r2) := by first | (rw [hji3] at H; exact H) | (simp only [hji3] at H ⊢; exact H)
    (try rw [hji3] at c2b0)
    have hji3w : (IntKind.i64.wrap ((a0.size : Int) - 8)) = ji3 := (i64_w _).trans hji3
    by_cases c4 : 0 ≤ (ji3)
    · rw [if_pos c4] at H
      have c4b0 := eq_true c4
      have c4b1 : decide (0 ≤ (ji3)) = true := decide_eq_true c4
      clear c4
      by_cases c5 : (ji3) ≤ (a0.size : Int)
      · rw [if_pos c5] at H
        have c5b0 := eq_true c5
        have c5b1 : decide ((ji3) ≤ (a0.size : Int)) = true := decide_eq_true c5
        clear c5
        replace H := Option.bind_eq_some_iff.mp H
        obtain ⟨t122, A60, H⟩ := H
        replace H : (if t122.toList = a0.toList then (some (a0.extract 0 ((ji3) : Int).toNat, 0)) else (some ((⟨#[]⟩ : ByteArray), 11))) = some (r1, r2) := H
        have A6 := Aside0.mk A60
        clear A60
        by_cases c7 : t122.toList = a0.toList
        · rw [if_pos c7] at H
          have c7b0 : (t122.toList == a0.toList) = true := beq_iff_eq.mpr c7
          have c7b1 : (t122.toList != a0.toList) = false := bne_eq_false_iff_eq.mpr c7
          clear c7
          have c8b0 := eq_true (of_decide_eq_true (by first | (with_reducible assumption) | assumption) : 0 ≤ (ji3))
          have c9b0 := eq_true (of_decide_eq_true (by first | (with_reducible assumption) | assumption) : (ji3) ≤ (a0.size : Int))
          simp only [Option.some.injEq, Prod.mk.injEq] at H
          obtain ⟨rfl, rfl⟩ := H
          go_enter Tryz.func103, Tryz.ntmps103
          go_wp2_with (first | (go_at_call 86; (with_reducible refine (knot_Seal.calls (a0.extract 0 ((ji3) : Int).toNat) t122 _ A6.out (gl_below HG.out (by repeat (first | (with_reducible first | exact HB.out | apply below_alloc | apply pw_below_drewN | apply below_drew1) | exact HB.out)))).mono ?_); rintro e w10 ⟨rfl, hb⟩; have n0_ := Aside0.mk (below_step (by repeat (first | (with_reducible first | exact HB.out | apply below_alloc | apply pw_below_drewN | apply below_drew1) | exact HB.out)) hb); clear HB; have HB := n0_; clear n0_; (try clear hb); (try clear hb2); (try clear hk); (try clear hi)))
          go_ret2
          exact ⟨by first | rfl | (simp [errW_none, errW_some] <;> rfl) | (simp only [← hji3]; first | rfl | (simp [errW_none, errW_some] <;> rfl)) | (simp [*, errW_none, errW_some] <;> rfl), by repeat (first | (with_reducible first | exact HB.out | apply below_alloc | apply pw_below_drewN | apply below_drew1) | exact HB.out)⟩
        · rw [if_neg c7] at H
          have c7b0 : (t122.toList == a0.toList) = false := beq_eq_false_iff_ne.mpr c7
          have c7b1 : (t122.toList != a0.toList) = true := bne_iff_ne.mpr c7
          simp only [Option.some.injEq, Prod.mk.injEq] at H
          obtain ⟨rfl, rfl⟩ := H
          go_enter Tryz.func103, Tryz.ntmps103
          go_wp2_with (first | (go_at_call 86; (with_reducible refine (knot_Seal.calls (a0.extract 0 ((ji3) : Int).toNat) t122 _ A6.out (gl_below HG.out (by repeat (first | (with_reducible first | exact HB.out | apply below_alloc | apply pw_below_drewN | apply below_drew1) | exact HB.out)))).mono ?_); rintro e w11 ⟨rfl, hb⟩; have n0_ := Aside0.mk (below_step (by repeat (first | (with_reducible first | exact HB.out | apply below_alloc | apply pw_below_drewN | apply below_drew1) | exact HB.out)) hb); clear HB; have HB := n0_; clear n0_; (try clear hb); (try clear hb2); (try clear hk); (try clear hi)))
          go_ret2
          exact ⟨by first | rfl | (simp [errW_none, errW_some] <;> rfl) | (simp only [← hji3]; first | rfl | (simp [errW_none, errW_some] <;> rfl)) | (simp [*, errW_none, errW_some] <;> rfl), by repeat (first | (with_reducible first | exact HB.out | apply below_alloc | apply pw_below_drewN | apply below_drew1) | exact HB.out)⟩
      · rw [if_neg c5] at H
        exact absurd H (by simp)
    · rw [if_neg c4] at H
      exact absurd H (by simp)

/-! ### ledger_read: function 83 -/
def ledger_read.f (k : Nat) (a0 : ByteArray) : Option (ByteArray × Int × ByteArray × ByteArray × Bool) := (knot_First.f a0).bind fun bt124 => (if bt124.2.2 = 0 then ((knot_Open.f bt124.1).bind fun bt127 => (if bt127.2 = 0 then ((knot_Untie.f k bt127.1).bind fun bt129 => (if bt129.2 = 0 then (if (bt129.1.length : Int) = 3 then (if 2 < (bt129.1.length : Int) then (if ((rdOf ByteArray.empty bt129.1 2).size : Int) > 524288 then (some ((⟨#[]⟩ : ByteArray), 0, (⟨#[]⟩ : ByteArray), a0, false)) else (if 1 < (bt129.1.length : Int) then ((knot_Int.f (rdOf ByteArray.empty bt129.1 1)).bind fun bt135 => (if 0 < (bt129.1.length : Int) then (some (rdOf ByteArray.empty bt129.1 0, bt135.1, rdOf ByteArray.empty bt129.1 2, bt124.2.1, (bt135.2 == 0))) else (none))) else (none))) else (none)) else (some ((⟨#[]⟩ : ByteArray), 0, (⟨#[]⟩ : ByteArray), a0, false))) else (some ((⟨#[]⟩ : ByteArray), 0, (⟨#[]⟩ : ByteArray), a0, false)))) else (some ((⟨#[]⟩ : ByteArray), 0, (⟨#[]⟩ : ByteArray), a0, false)))) else (some ((⟨#[]⟩ : ByteArray), 0, (⟨#[]⟩ : ByteArray), a0, false)))
theorem ledger_read.mono : ∀ a0 k, LeO (ledger_read.f k a0) (ledger_read.f (k + 1) a0) := by
  intro a0 k
  unfold ledger_read.f
  repeat' first
      | (with_reducible exact knot_Untie.mono _ _)
      | (with_reducible exact LeO.refl _)
      | (with_reducible exact LeO.none _)
      | (with_reducible refine LeO.ite ?_ ?_)
      | (with_reducible refine LeO.bind ?_ (fun _ => ?_))
      | exact knot_Untie.mono _ _
      | exact LeO.none _
      | refine LeO.ite ?_ ?_
      | refine LeO.bind ?_ (fun _ => ?_)
def ledger_read.T11 : Bool × List (List Nat × List Nat) := (true, [([], []), ([0], [0]), ([1], [1]), ([], []), ([], []), ([4], [4]), ([5], [5]), ([2, 3, 6], [2, 3, 6]), ([], []), ([], []), ([9], [9]), ([7, 0, 1, 2, 3, 4, 5, 6, 7], [7]), ([8, 11, 0, 1, 2, 3, 4, 5, 6, 7, 8, 11], [8]), ([10, 12, 0, 1, 2, 3, 4, 5, 6, 7, 8, 9, 10, 11, 12], [10])])
def ledger_read.B11 : List Nat := [0, 1, 3, 0, 0, 16, 48, 127, 0, 0, 512, 255, 2559, 8191]
theorem ledger_read.tab11 : rtab .any (opsOf Tryz.f83 11) = ledger_read.T11 := by kernel_rfl
theorem ledger_read.bits11 : waitsOk ledger_read.T11.2 ledger_read.B11 = true := by kernel_rfl
set_option maxHeartbeats 8000000 in
set_option maxRecDepth 100000 in
theorem ledger_read.calls (k : Nat) (a0 : ByteArray) (r1 : ByteArray) (r2 : Int) (r3 : ByteArray) (r4 : ByteArray) (r5 : Bool) (w : World) (h : ledger_read.f k a0 = some (r1, r2, r3, r4, r5)) (hG : Gl w) :
    Calls Tryz.prog 83 #[.string a0] w fun e w' => e = .returned (.tuple #[.agg #[.string r1, .int .i64 r2, .string r3], .string r4, .bool r5]) ∧ Below w.heap.size w w' := by
  have HG := Aside0.mk hG
  clear hG
  have hu135 := Tryz.underlying135
  have HB := Aside0.mk (Below.refl w.heap.size w)
  have H : ((knot_First.f a0).bind fun bt124 => (if bt124.2.2 = 0 then ((knot_Open.f bt124.1).bind fun bt127 => (if bt127.2 = 0 then ((knot_Untie.f k bt127.1).bind fun bt129 => (if bt129.2 = 0 then (if (bt129.1.length : Int) = 3 then (if 2 < (bt129.1.length : Int) then (if ((rdOf ByteArray.empty bt129.1 2).size : Int) > 524288 then (some ((⟨#[]⟩ : ByteArray), 0, (⟨#[]⟩ : ByteArray), a0, false)) else (if 1 < (bt129.1.length : Int) then ((knot_Int.f (rdOf ByteArray.empty bt129.1 1)).bind fun bt135 => (if 0 < (bt129.1.length : Int) then (some (rdOf ByteArray.empty bt129.1 0, bt135.1, rdOf ByteArray.empty bt129.1 2, bt124.2.1, (bt135.2 == 0))) else (none))) else (none))) else (none)) else (some ((⟨#[]⟩ : ByteArray), 0, (⟨#[]⟩ : ByteArray), a0, false))) else (some ((⟨#[]⟩ : ByteArray), 0, (⟨#[]⟩ : ByteArray), a0, false)))) else (some ((⟨#[]⟩ : ByteArray), 0, (⟨#[]⟩ : ByteArray), a0, false)))) else (some ((⟨#[]⟩ : ByteArray), 0, (⟨#[]⟩ : ByteArray), a0, false)))) = some (r1, r2, r3, r4, r5) := h
  clear h
  replace H := Option.bind_eq_some_iff.mp H
  obtain ⟨⟨t124, t125, t126⟩, A20, H⟩ := H
  replace H : (if t126 = 0 then ((knot_Open.f t124).bind fun bt127 => (if bt127.2 = 0 then ((knot_Untie.f k bt127.1).bind fun bt129 => (if bt129.2 = 0 then (if (bt129.1.length : Int) = 3 then (if 2 < (bt129.1.length : Int) then (if ((rdOf ByteArray.empty bt129.1 2).size : Int) > 524288 then (some ((⟨#[]⟩ : ByteArray), 0, (⟨#[]⟩ : ByteArray), a0, false)) else (if 1 < (bt129.1.length : Int) then ((knot_Int.f (rdOf ByteArray.empty bt129.1 1)).bind fun bt135 => (if 0 < (bt129.1.length : Int) then (some (rdOf ByteArray.empty bt129.1 0, bt135.1, rdOf ByteArray.empty bt129.1 2, t125, (bt135.2 == 0))) else (none))) else (none))) else (none)) else (some ((⟨#[]⟩ : ByteArray), 0, (⟨#[]⟩ : ByteArray), a0, false))) else (some ((⟨#[]⟩ : ByteArray), 0, (⟨#[]⟩ : ByteArray), a0, false)))) else (some ((⟨#[]⟩ : ByteArray), 0, (⟨#[]⟩ : ByteArray), a0, false)))) else (some ((⟨#[]⟩ : ByteArray), 0, (⟨#[]⟩ : ByteArray), a0, false))) = some (r1, r2, r3, r4, r5) := H
  have A2 := Aside0.mk A20
  clear A20
  by_cases c3 : t126 = 0
  · rw [if_pos c3] at H
    have c3b0 : (t126 == 0) = true := beq_iff_eq.mpr c3
    have c3b1 : (t126 != 0) = false := bne_eq_false_iff_eq.mpr c3
    clear c3
    replace H := Option.bind_eq_some_iff.mp H
    obtain ⟨⟨t127, t128⟩, A40, H⟩ := H
    replace H : (if t128 = 0 then ((knot_Untie.f k t127).bind fun bt129 => (if bt129.2 = 0 then (if (bt129.1.length : Int) = 3 then (if 2 < (bt129.1.length : Int) then (if ((rdOf ByteArray.empty bt129.1 2).size : Int) > 524288 then (some ((⟨#[]⟩ : ByteArray), 0, (⟨#[]⟩ : ByteArray), a0, false)) else (if 1 < (bt129.1.length : Int) then ((knot_Int.f (rdOf ByteArray.empty bt129.1 1)).bind fun bt135 => (if 0 < (bt129.1.length : Int) then (some (rdOf ByteArray.empty bt129.1 0, bt135.1, rdOf ByteArray.empty bt129.1 2, t125, (bt135.2 == 0))) else (none))) else (none))) else (none)) else (some ((⟨#[]⟩ : ByteArray), 0, (⟨#[]⟩ : ByteArray), a0, false))) else (some ((⟨#[]⟩ : ByteArray), 0, (⟨#[]⟩ : ByteArray), a0, false)))) else (some ((⟨#[]⟩ : ByteArray), 0, (⟨#[]⟩ : ByteArray), a0, false))) = some (r1, r2, r3, r4, r5) := H
    have A4 := Aside0.mk A40
    clear A40
    by_cases c5 : t128 = 0
    · rw [if_pos c5] at H
      have c5b0 : (t128 == 0) = true := beq_iff_eq.mpr c5
      have c5b1 : (t128 != 0) = false := bne_eq_false_iff_eq.mpr c5
      clear c5
      replace H := Option.bind_eq_some_iff.mp H
      obtain ⟨⟨t129, t130⟩, A60, H⟩ := H
      replace H : (if t130 = 0 then (if (t129.length : Int) = 3 then (if 2 < (t129.length : Int) then (if ((rdOf ByteArray.empty t129 2).size : Int) > 524288 then (some ((⟨#[]⟩ : ByteArray), 0, (⟨#[]⟩ : ByteArray), a0, false)) else (if 1 < (t129.length : Int) then ((knot_Int.f (rdOf ByteArray.empty t129 1)).bind fun bt135 => (if 0 < (t129.length : Int) then (some (rdOf ByteArray.empty t129 0, bt135.1, rdOf ByteArray.empty t129 2, t125, (bt135.2 == 0))) else (none))) else (none))) else (none)) else (some ((⟨#[]⟩ : ByteArray), 0, (⟨#[]⟩ : ByteArray), a0, false))) else (some ((⟨#[]⟩ : ByteArray), 0, (⟨#[]⟩ : ByteArray), a0, false))) = some (r1, r2, r3, r4, r5) := H
      have A6 := Aside0.mk A60
      clear A60
      by_cases c7 : t130 = 0
      · rw [if_pos c7] at H
        have c7b0 : (t130 == 0) = true := beq_iff_eq.mpr c7
        have c7b1 : (t130 != 0) = false := bne_eq_false_iff_eq.mpr c7
        clear c7
        by_cases c8 : (t129.length : Int) = 3
        · rw [if_pos c8] at H
          have c8b0 : ((t129.length : Int) == 3) = true := beq_iff_eq.mpr c8
          have c8b1 : ((t129.length : Int) != 3) = false := bne_eq_false_iff_eq.mpr c8
          clear c8
          by_cases c9 : 2 < (t129.length : Int)
          · rw [if_pos c9] at H
            have c9b0 : decide (2 < (t129.length : Int)) = true := decide_eq_true c9
            have c9b1 : decide (2 < t129.length) = true := decide_eq_true (by omega)
            clear c9
            by_cases c10 : ((rdOf ByteArray.empty t129 2).size : Int) > 524288
            · rw [if_pos c10] at H
              have c10b0 : decide (524288 < ((rdOf ByteArray.empty t129 2).size : Int)) = true := decide_eq_true c10
              have c10b1 : decide (524288 < (rdOf ByteArray.empty t129 2).size) = true := decide_eq_true (by omega)
              clear c10
              simp only [Option.some.injEq, Prod.mk.injEq] at H
              obtain ⟨rfl, rfl, rfl, rfl, rfl⟩ := H
              go_enter Tryz.func83, Tryz.ntmps83
              go_wp2_with (first | ((with_reducible refine gate_dst (N := 2) rfl ?_); (try (refine gate_guard (by rfl) ?_; dsimp only)); refine box_event ?hg (N := 2) ?hd (cs := #[.string (⟨#[]⟩ : ByteArray), .int .i64 0, .string (⟨#[]⟩ : ByteArray)]) (t := 135) ?hr ?_; (case hd => rfl); (case hg => rfl); (case hr => first | (go_simp; done) | (go_simp; rfl)); intro gb123 hg w11 hbox hb; have n0_ := Aside0.mk (below_step (by repeat (first | (with_reducible first | exact HB.out | apply below_alloc | apply pw_below_drewN | apply below_drew1) | exact HB.out)) hb); have n1_ := Aside0.mk (hbox); have n2_ := Aside0.mk ((by rw [hg]; exact (below_size (by repeat (first | (with_reducible first | exact HB.out | apply below_alloc | apply pw_below_drewN | apply below_drew1) | exact HB.out))) : w.heap.size ≤ gb123)); have n3_ := Aside0.mk ((by rw [hg]; exact (below_size (by repeat (first | (with_reducible first | exact HB.out | apply below_alloc | apply pw_below_drewN | apply below_drew1) | exact HB.out))) : w.heap.size ≤ gb123)); clear HB; have HB := n0_; have BK123 := n1_; have GW123 := n2_; have GE123 := n3_; clear n0_ n1_ n2_ n3_; clear hb hbox hg) | ((with_reducible refine gate_callee (f := 89) rfl ?_); refine goesL_ (some 11) rfl rfl Tryz.func89 (by kernel_rfl) rfl #[.string a0] rfl (by (try simp only [List.map_toArray, List.map_cons, List.map_nil]); first | done | rfl | (simp only [List.length_drop, List.length_take]; rfl)) ?_; (with_reducible refine (knot_First.calls a0 t124 t125 t126 _ A2.out (gl_below HG.out (by repeat (first | (with_reducible first | exact HB.out | apply below_alloc | apply pw_below_drewN | apply below_drew1 | refine below_set ?_ GE123.out) | exact HB.out)))).mono ?_); rintro e w12 ⟨rfl, hb⟩; refine ⟨_, rfl, ?_⟩; have n0_ := Aside0.mk (blk_below (g := gb123) (o := .cells #[.string (⟨#[]⟩ : ByteArray), .int .i64 0, .string (⟨#[]⟩ : ByteArray)] 135 (0, 0)) (by (with_reducible repeat (first | refine blk_drewN ?_ _ | refine blk_drew ?_ | refine blk_alloc ?_ _)); exact BK123.out) hb); have n1_ := Aside0.mk (below_step (by repeat (first | (with_reducible first | exact HB.out | apply below_alloc | apply pw_below_drewN | apply below_drew1 | refine below_set ?_ GE123.out) | exact HB.out)) hb); clear BK123; clear HB; have BK123 := n0_; have HB := n1_; clear n0_ n1_; (try clear hb); (try clear hb2); (try clear hk); (try clear hi)) | ((with_reducible refine gate_callee (f := 103) rfl ?_); refine goesL_ (some 21) rfl rfl Tryz.func103 (by kernel_rfl) rfl #[.string t124] rfl (by (try simp only [List.map_toArray, List.map_cons, List.map_nil]); first | done | rfl | (simp only [List.length_drop, List.length_take]; rfl)) ?_; (with_reducible refine (knot_Open.calls t124 t127 t128 _ A4.out (gl_below HG.out (by repeat (first | (with_reducible first | exact HB.out | apply below_alloc | apply pw_below_drewN | apply below_drew1 | refine below_set ?_ GE123.out) | exact HB.out)))).mono ?_); rintro e w13 ⟨rfl, hb⟩; refine ⟨_, rfl, ?_⟩; have n0_ := Aside0.mk (blk_below (g := gb123) (o := .cells #[.string (⟨#[]⟩ : ByteArray), .int .i64 0, .string (⟨#[]⟩ : ByteArray)] 135 (0, 0)) (by (with_reducible repeat (first | refine blk_drewN ?_ _ | refine blk_drew ?_ | refine blk_alloc ?_ _)); exact BK123.out) hb); have n1_ := Aside0.mk (below_step (by repeat (first | (with_reducible first | exact HB.out | apply below_alloc | apply pw_below_drewN | apply below_drew1 | refine below_set ?_ GE123.out) | exact HB.out)) hb); clear BK123; clear HB; have BK123 := n0_; have HB := n1_; clear n0_ n1_; (try clear hb); (try clear hb2); (try clear hk); (try clear hi)) | ((with_reducible refine gate_callee (f := 65) rfl ?_); refine goesL_ (some 30) rfl rfl Tryz.func65 (by kernel_rfl) rfl #[.string t127] rfl (by (try simp only [List.map_toArray, List.map_cons, List.map_nil]); first | done | rfl | (simp only [List.length_drop, List.length_take]; rfl)) ?_; (with_reducible refine (knot_Untie.calls k t127 t129 t130 _ A6.out (gl_below HG.out (by repeat (first | (with_reducible first | exact HB.out | apply below_alloc | apply pw_below_drewN | apply below_drew1 | refine below_set ?_ GE123.out) | exact HB.out)))).mono ?_); rintro e w14 ⟨v131, rfl, ho0, hb⟩; refine ⟨_, rfl, ?_⟩; have n0_ := Aside0.mk (Kd.R_lower ho0 (below_size (by repeat (first | (with_reducible first | exact HB.out | apply below_alloc | apply pw_below_drewN | apply below_drew1 | refine below_set ?_ GE123.out) | exact HB.out)))); have n1_ := Aside0.mk (blk_below (g := gb123) (o := .cells #[.string (⟨#[]⟩ : ByteArray), .int .i64 0, .string (⟨#[]⟩ : ByteArray)] 135 (0, 0)) (by (with_reducible repeat (first | refine blk_drewN ?_ _ | refine blk_drew ?_ | refine blk_alloc ?_ _)); exact BK123.out) hb); have n2_ := Aside0.mk (below_step (by repeat (first | (with_reducible first | exact HB.out | apply below_alloc | apply pw_below_drewN | apply below_drew1 | refine below_set ?_ GE123.out) | exact HB.out)) hb); clear BK123; clear HB; have HO132 := n0_; have BK123 := n1_; have HB := n2_; clear n0_ n1_ n2_; (try clear hb); (try clear hb2); (try clear hk); (try clear hi); (try clear ho0); obtain ⟨Ao15, co15, eo15⟩ := Kd.R_slice HO132.out; subst eo15; have p133 : 0 ≤ (2 : Int) := (by omega); have q133 : 2 < (t129.length : Int) := of_decide_eq_true (by first | (with_reducible assumption) | assumption); obtain ⟨ad133, e133, hx133_0⟩ := Kd.at_string (Kd.R_reads' HO132.out).2.2 2 p133 q133; cases e133; (try simp only [show (2 : Int).toNat = 2 from rfl, Nat.reduceMul, Nat.reduceEqDiff, Go.Addr.add, ↓reduceIte] at hx133_0); have qi133 : (2 < t129.length) = True := eq_true (by omega); (try rw [show ((2 : Int)).toNat = 2 from rfl] at hx133_0); replace p133 := eq_true p133; replace q133 := eq_true q133; have hcz16_0 : w14.cell? ⟨gb123, 0, none⟩ = some (.string (⟨#[]⟩ : ByteArray)) := (blk_cell BK123.out 0).trans rfl; have hcz16_1 : w14.cell? ⟨gb123, 1, none⟩ = some (.int .i64 0) := (blk_cell BK123.out 1).trans rfl; have hcz16_2 : w14.cell? ⟨gb123, 2, none⟩ = some (.string (⟨#[]⟩ : ByteArray)) := (blk_cell BK123.out 2).trans rfl; have hfz16_0 := blk_frozen BK123.out 0; have hfz16_1 := blk_frozen BK123.out 1; have hfz16_2 := blk_frozen BK123.out 2))
              refine bodyPost_ret (results_ctt rfl _ _ gb123 135 #[.string (⟨#[]⟩ : ByteArray), .int .i64 0, .string (⟨#[]⟩ : ByteArray)] (0, 0) _ rfl (by (with_reducible repeat (first | refine blk_drewN ?_ _ | refine blk_drew ?_ | refine blk_alloc ?_ _)); refine blk_put (cs := #[.string (⟨#[]⟩ : ByteArray), .int .i64 0, .string (⟨#[]⟩ : ByteArray)]) ?_ 2 _ rfl; (with_reducible repeat (first | refine blk_drewN ?_ _ | refine blk_drew ?_ | refine blk_alloc ?_ _)); refine blk_put (cs := #[.string (⟨#[]⟩ : ByteArray), .int .i64 0, .string (⟨#[]⟩ : ByteArray)]) ?_ 1 _ rfl; (with_reducible repeat (first | refine blk_drewN ?_ _ | refine blk_drew ?_ | refine blk_alloc ?_ _)); refine blk_put (cs := #[.string (⟨#[]⟩ : ByteArray), .int .i64 0, .string (⟨#[]⟩ : ByteArray)]) ?_ 0 _ rfl; (with_reducible repeat (first | refine blk_drewN ?_ _ | refine blk_drew ?_ | refine blk_alloc ?_ _)); exact BK123.out) Tryz.underlying135 rfl (by kernel_rfl)) rfl ?_
              exact ⟨by first | rfl | (simp [errW_none, errW_some] <;> rfl) | (simp [*, errW_none, errW_some] <;> rfl), by repeat (first | (with_reducible first | exact HB.out | apply below_alloc | apply pw_below_drewN | apply below_drew1 | refine below_set ?_ GE123.out) | exact HB.out)⟩
            · rw [if_neg c10] at H
              have c10b0 : decide (524288 < ((rdOf ByteArray.empty t129 2).size : Int)) = false := decide_eq_false c10
              have c10b1 : decide (524288 < (rdOf ByteArray.empty t129 2).size) = false := decide_eq_false (by omega)
              clear c10
              by_cases c17 : 1 < (t129.length : Int)
              · rw [if_pos c17] at H
                have c17b0 : decide (1 < (t129.length : Int)) = true := decide_eq_true c17
                have c17b1 : decide (1 < t129.length) = true := decide_eq_true (by omega)
                clear c17
                replace H := Option.bind_eq_some_iff.mp H
                obtain ⟨⟨t135, t136⟩, A180, H⟩ := H
                replace H : (if 0 < (t129.length : Int) then (some (rdOf ByteArray.empty t129 0, t135, rdOf ByteArray.empty t129 2, t125, (t136 == 0))) else (none)) = some (r1, r2, r3, r4, r5) := H
                have A18 := Aside0.mk A180
                clear A180
                by_cases c19 : 0 < (t129.length : Int)
                · rw [if_pos c19] at H
                  have c19b0 : decide (0 < (t129.length : Int)) = true := decide_eq_true c19
                  have c19b1 : decide (0 < t129.length) = true := decide_eq_true (by omega)
                  clear c19
                  simp only [Option.some.injEq, Prod.mk.injEq] at H
                  obtain ⟨rfl, rfl, rfl, rfl, rfl⟩ := H
                  go_enter Tryz.func83, Tryz.ntmps83
                  try go_wp2_with (first | ((with_reducible refine gate_dst (N := 2) rfl ?_); (try (refine gate_guard (by rfl) ?_; dsimp only)); refine box_event ?hg (N := 2) ?hd (cs := #[.string (⟨#[]⟩ : ByteArray), .int .i64 0, .string (⟨#[]⟩ : ByteArray)]) (t := 135) ?hr ?_; (case hd => rfl); (case hg => rfl); (case hr => first | (go_simp; done) | (go_simp; rfl)); intro gb123 hg w20 hbox hb; have n0_ := Aside0.mk (below_step (by repeat (first | (with_reducible first | exact HB.out | apply below_alloc | apply pw_below_drewN | apply below_drew1) | exact HB.out)) hb); have n1_ := Aside0.mk (hbox); have n2_ := Aside0.mk ((by rw [hg]; exact (below_size (by repeat (first | (with_reducible first | exact HB.out | apply below_alloc | apply pw_below_drewN | apply below_drew1) | exact HB.out))) : w.heap.size ≤ gb123)); have n3_ := Aside0.mk ((by rw [hg]; exact (below_size (by repeat (first | (with_reducible first | exact HB.out | apply below_alloc | apply pw_below_drewN | apply below_drew1) | exact HB.out))) : w.heap.size ≤ gb123)); clear HB; have HB := n0_; have BK123 := n1_; have GW123 := n2_; have GE123 := n3_; clear n0_ n1_ n2_ n3_; clear hb hbox hg) | ((with_reducible refine gate_callee (f := 89) rfl ?_); refine goesL_ (some 11) rfl rfl Tryz.func89 (by kernel_rfl) rfl #[.string a0] rfl (by (try simp only [List.map_toArray, List.map_cons, List.map_nil]); first | done | rfl | (simp only [List.length_drop, List.length_take]; rfl)) ?_; (with_reducible refine (knot_First.calls a0 t124 t125 t126 _ A2.out (gl_below HG.out (by repeat (first | (with_reducible first | exact HB.out | apply below_alloc | apply pw_below_drewN | apply below_drew1 | refine below_set ?_ GE123.out) | exact HB.out)))).mono ?_); rintro e w21 ⟨rfl, hb⟩; refine ⟨_, rfl, ?_⟩; have n0_ := Aside0.mk (blk_below (g := gb123) (o := .cells #[.string (⟨#[]⟩ : ByteArray), .int .i64 0, .string (⟨#[]⟩ : ByteArray)] 135 (0, 0)) (by (with_reducible repeat (first | refine blk_drewN ?_ _ | refine blk_drew ?_ | refine blk_alloc ?_ _)); exact BK123.out) hb); have n1_ := Aside0.mk (below_step (by repeat (first | (with_reducible first | exact HB.out | apply below_alloc | apply pw_below_drewN | apply below_drew1 | refine below_set ?_ GE123.out) | exact HB.out)) hb); clear BK123; clear HB; have BK123 := n0_; have HB := n1_; clear n0_ n1_; (try clear hb); (try clear hb2); (try clear hk); (try clear hi)) | ((with_reducible refine gate_callee (f := 103) rfl ?_); refine goesL_ (some 21) rfl rfl Tryz.func103 (by kernel_rfl) rfl #[.string t124] rfl (by (try simp only [List.map_toArray, List.map_cons, List.map_nil]); first | done | rfl | (simp only [List.length_drop, List.length_take]; rfl)) ?_; (with_reducible refine (knot_Open.calls t124 t127 t128 _ A4.out (gl_below HG.out (by repeat (first | (with_reducible first | exact HB.out | apply below_alloc | apply pw_below_drewN | apply below_drew1 | refine below_set ?_ GE123.out) | exact HB.out)))).mono ?_); rintro e w22 ⟨rfl, hb⟩; refine ⟨_, rfl, ?_⟩; have n0_ := Aside0.mk (blk_below (g := gb123) (o := .cells #[.string (⟨#[]⟩ : ByteArray), .int .i64 0, .string (⟨#[]⟩ : ByteArray)] 135 (0, 0)) (by (with_reducible repeat (first | refine blk_drewN ?_ _ | refine blk_drew ?_ | refine blk_alloc ?_ _)); exact BK123.out) hb); have n1_ := Aside0.mk (below_step (by repeat (first | (with_reducible first | exact HB.out | apply below_alloc | apply pw_below_drewN | apply below_drew1 | refine below_set ?_ GE123.out) | exact HB.out)) hb); clear BK123; clear HB; have BK123 := n0_; have HB := n1_; clear n0_ n1_; (try clear hb); (try clear hb2); (try clear hk); (try clear hi)) | ((with_reducible refine gate_callee (f := 65) rfl ?_); refine goesL_ (some 30) rfl rfl Tryz.func65 (by kernel_rfl) rfl #[.string t127] rfl (by (try simp only [List.map_toArray, List.map_cons, List.map_nil]); first | done | rfl | (simp only [List.length_drop, List.length_take]; rfl)) ?_; (with_reducible refine (knot_Untie.calls k t127 t129 t130 _ A6.out (gl_below HG.out (by repeat (first | (with_reducible first | exact HB.out | apply below_alloc | apply pw_below_drewN | apply below_drew1 | refine below_set ?_ GE123.out) | exact HB.out)))).mono ?_); rintro e w23 ⟨v131, rfl, ho0, hb⟩; refine ⟨_, rfl, ?_⟩; have n0_ := Aside0.mk (Kd.R_lower ho0 (below_size (by repeat (first | (with_reducible first | exact HB.out | apply below_alloc | apply pw_below_drewN | apply below_drew1 | refine below_set ?_ GE123.out) | exact HB.out)))); have n1_ := Aside0.mk (blk_below (g := gb123) (o := .cells #[.string (⟨#[]⟩ : ByteArray), .int .i64 0, .string (⟨#[]⟩ : ByteArray)] 135 (0, 0)) (by (with_reducible repeat (first | refine blk_drewN ?_ _ | refine blk_drew ?_ | refine blk_alloc ?_ _)); exact BK123.out) hb); have n2_ := Aside0.mk (below_step (by repeat (first | (with_reducible first | exact HB.out | apply below_alloc | apply pw_below_drewN | apply below_drew1 | refine below_set ?_ GE123.out) | exact HB.out)) hb); clear BK123; clear HB; have HO132 := n0_; have BK123 := n1_; have HB := n2_; clear n0_ n1_ n2_; (try clear hb); (try clear hb2); (try clear hk); (try clear hi); (try clear ho0); obtain ⟨Ao24, co24, eo24⟩ := Kd.R_slice HO132.out; subst eo24; have p133 : 0 ≤ (2 : Int) := (by omega); have q133 : 2 < (t129.length : Int) := of_decide_eq_true (by first | (with_reducible assumption) | assumption); obtain ⟨ad133, e133, hx133_0⟩ := Kd.at_string (Kd.R_reads' HO132.out).2.2 2 p133 q133; cases e133; (try simp only [show (2 : Int).toNat = 2 from rfl, Nat.reduceMul, Nat.reduceEqDiff, Go.Addr.add, ↓reduceIte] at hx133_0); have qi133 : (2 < t129.length) = True := eq_true (by omega); (try rw [show ((2 : Int)).toNat = 2 from rfl] at hx133_0); replace p133 := eq_true p133; replace q133 := eq_true q133; have p134 : 0 ≤ (1 : Int) := (by omega); have q134 : 1 < (t129.length : Int) := of_decide_eq_true (by first | (with_reducible assumption) | assumption); obtain ⟨ad134, e134, hx134_0⟩ := Kd.at_string (Kd.R_reads' HO132.out).2.2 1 p134 q134; obtain rfl : ad133 = ad134 := (by injection e134); (try simp only [show (1 : Int).toNat = 1 from rfl, Nat.reduceMul, Nat.reduceEqDiff, Go.Addr.add, ↓reduceIte] at hx134_0); have qi134 : (1 < t129.length) = True := eq_true (by omega); (try rw [show ((1 : Int)).toNat = 1 from rfl] at hx134_0); replace p134 := eq_true p134; replace q134 := eq_true q134) | ((with_reducible refine gate_callee (f := 104) rfl ?_); refine goesL_ (some 53) rfl rfl Tryz.func104 (by kernel_rfl) rfl #[.string (rdOf ByteArray.empty t129 1)] rfl (by (try simp only [List.map_toArray, List.map_cons, List.map_nil]); first | done | rfl | (simp only [List.length_drop, List.length_take]; rfl)) ?_; (with_reducible refine (knot_Int.calls (rdOf ByteArray.empty t129 1) t135 t136 _ A18.out (gl_below HG.out (by repeat (first | (with_reducible first | exact HB.out | apply below_alloc | apply pw_below_drewN | apply below_drew1 | refine below_set ?_ GE123.out) | exact HB.out)))).mono ?_); rintro e w25 ⟨rfl, hb⟩; refine ⟨_, rfl, ?_⟩; have n0_ := Aside0.mk (Kd.R_below (by (with_reducible repeat (first | apply Kd.R_alloc | apply Kd.R_drewN | apply Kd.R_drew)); exact HO132.out) hb); have n1_ := Aside0.mk (blk_below (g := gb123) (o := .cells #[.string (⟨#[]⟩ : ByteArray), .int .i64 0, .string (⟨#[]⟩ : ByteArray)] 135 (0, 0)) (by (with_reducible repeat (first | refine blk_drewN ?_ _ | refine blk_drew ?_ | refine blk_alloc ?_ _)); exact BK123.out) hb); have n2_ := Aside0.mk (below_step (by repeat (first | (with_reducible first | exact HB.out | apply below_alloc | apply pw_below_drewN | apply below_drew1 | refine below_set ?_ GE123.out) | exact HB.out)) hb); clear HO132; clear BK123; clear HB; have HO132 := n0_; have BK123 := n1_; have HB := n2_; clear n0_ n1_ n2_; (try clear hb); (try clear hb2); (try clear hk); (try clear hi)))
                  have n0_ := Aside0.mk (Kd.R_drew HO132.out)
                  have n1_ := Aside0.mk (blk_drew BK123.out)
                  have n2_ := Aside0.mk (below_drew1 HB.out)
                  clear HO132
                  clear BK123
                  clear HB
                  have HO132 := n0_
                  have BK123 := n1_
                  have HB := n2_
                  clear n0_ n1_ n2_
                  have p137 : 0 ≤ (0 : Int) := (by omega)
                  have q137 : 0 < (t129.length : Int) := of_decide_eq_true (by first | (with_reducible assumption) | assumption)
                  obtain ⟨ad137, e137, hx137_0⟩ := Kd.at_string (Kd.R_reads' HO132.out).2.2 0 p137 q137
                  obtain rfl : ad133 = ad137 := (by injection e137)
                  have qi137 : (0 < t129.length) = True := eq_true (by omega)
                  (try rw [show ((0 : Int)).toNat = 0 from rfl] at hx137_0)
                  (try rw [Addr.add_zero'] at hx137_0)
                  replace p137 := eq_true p137
                  replace q137 := eq_true q137
                  have p138 : 0 ≤ (2 : Int) := (by omega)
                  have q138 : 2 < (t129.length : Int) := of_decide_eq_true (by first | (with_reducible assumption) | assumption)
                  obtain ⟨ad138, e138, hx138_0⟩ := Kd.at_string (Kd.R_reads' HO132.out).2.2 2 p138 q138
                  obtain rfl : ad133 = ad138 := (by injection e138)
                  (try simp only [show (2 : Int).toNat = 2 from rfl, Nat.reduceMul, Nat.reduceEqDiff, Go.Addr.add, ↓reduceIte] at hx138_0)
                  have qi138 : (2 < t129.length) = True := eq_true (by omega)
                  (try rw [show ((2 : Int)).toNat = 2 from rfl] at hx138_0)
                  replace p138 := eq_true p138
                  replace q138 := eq_true q138
                  refine start_ (n := 14) (S := fun w' => w'.cell? ad133 = some (.string (rdOf ByteArray.empty t129 0)) ∧ w'.cell? ⟨ad133.block, ad133.off + 2, none⟩ = some (.string (rdOf ByteArray.empty t129 2))) (ds := []) #[false, false, false, false, false, false, false, false, false, false, false, false, false, false] (by kernel_rfl) rfl rfl ⟨hx137_0, hx138_0⟩ (fun hHeld => ?_); refine with_tabW ledger_read.tab11 ledger_read.bits11 (fun HT_ HW_ => ?_)
                  generalize w25.drew = w26 at HO132 BK123 HB hx137_0 hx138_0 hHeld ⊢
                  refine pure_ (i := 0) (N := some 56) (v := ?_) (a' := ?_) #[true, false, false, false, false, false, false, false, false, false, false, false, false, false] rfl rfl (any_of HT_.out (by kernel_rfl)) (fun _ _ _ h => h) (Or.inl ⟨by rfl, ?_⟩) ?_ ?_
                  rotate_left
                  · intro w'
                    go_simp
                    with_reducible rfl
                  rotate_left
                  · simp only [Act.put, List.setIfInBounds_toArray, List.set_cons_zero, List.set_cons_succ, i64_w, i32_w]
                    rfl
                  refine pure_ (i := 1) (N := some 57) (v := ?_) (a' := ?_) #[true, true, false, false, false, false, false, false, false, false, false, false, false, false] rfl rfl (any_of HT_.out (by kernel_rfl)) (fun _ _ _ h => h) (Or.inl ⟨by rfl, ?_⟩) ?_ ?_
                  rotate_left
                  · intro w'
                    go_simp
                    with_reducible rfl
                  rotate_left
                  · simp only [Act.put, List.setIfInBounds_toArray, List.set_cons_zero, List.set_cons_succ, i64_w, i32_w]
                    rfl
                  refine pure_ (i := 3) (N := some 59) (v := ?_) (a' := ?_) #[true, true, false, true, false, false, false, false, false, false, false, false, false, false] rfl rfl (any_of HT_.out (by kernel_rfl)) (fun _ _ _ h => h) (Or.inl ⟨by rfl, ?_⟩) ?_ ?_
                  rotate_left
                  · intro w'
                    go_simp
                    with_reducible rfl
                  rotate_left
                  · simp only [Act.put, List.setIfInBounds_toArray, List.set_cons_zero, List.set_cons_succ, i64_w, i32_w]
                    rfl
                  refine pure_ (i := 4) (N := some 60) (v := ?_) (a' := ?_) #[true, true, false, true, true, false, false, false, false, false, false, false, false, false] rfl rfl (any_of HT_.out (by kernel_rfl)) (fun _ _ _ h => h) (Or.inl ⟨by rfl, ?_⟩) ?_ ?_
                  rotate_left
                  · intro w'
                    go_simp
                    with_reducible rfl
                  rotate_left
                  · simp only [Act.put, List.setIfInBounds_toArray, List.set_cons_zero, List.set_cons_succ, i64_w, i32_w]
                    rfl
                  refine pure_ (i := 5) (N := some 61) (v := ?_) (a' := ?_) #[true, true, false, true, true, true, false, false, false, false, false, false, false, false] rfl rfl (any_of HT_.out (by kernel_rfl)) (fun _ _ _ h => h) (Or.inl ⟨by rfl, ?_⟩) ?_ ?_
                  rotate_left
                  · intro w'
                    go_simp
                    with_reducible rfl
                  rotate_left
                  · simp only [Act.put, List.setIfInBounds_toArray, List.set_cons_zero, List.set_cons_succ, i64_w, i32_w]
                    rfl
                  refine pure_ (i := 8) (N := some 64) (v := ?_) (a' := ?_) #[true, true, false, true, true, true, false, false, true, false, false, false, false, false] rfl rfl (any_of HT_.out (by kernel_rfl)) (fun _ _ _ h => h) (Or.inl ⟨by rfl, ?_⟩) ?_ ?_
                  rotate_left
                  · intro w'
                    go_simp
                    with_reducible rfl
                  rotate_left
                  · simp only [Act.put, List.setIfInBounds_toArray, List.set_cons_zero, List.set_cons_succ, i64_w, i32_w]
                    rfl
                  refine pure_ (i := 9) (N := some 65) (v := ?_) (a' := ?_) #[true, true, false, true, true, true, false, false, true, true, false, false, false, false] rfl rfl (any_of HT_.out (by kernel_rfl)) (fun _ _ _ h => h) (Or.inl ⟨by rfl, ?_⟩) ?_ ?_
                  rotate_left
                  · intro w'
                    go_simp
                    with_reducible rfl
                  rotate_left
                  · simp only [Act.put, List.setIfInBounds_toArray, List.set_cons_zero, List.set_cons_succ, i64_w, i32_w]
                    rfl
                  refine pure_ (i := 10) (N := some 66) (v := ?_) (a' := ?_) #[true, true, false, true, true, true, false, false, true, true, true, false, false, false] rfl rfl (any_of HT_.out (by kernel_rfl)) (fun _ _ _ h => h) (Or.inl ⟨by rfl, ?_⟩) ?_ ?_
                  rotate_left
                  · intro w'
                    go_simp
                    with_reducible rfl
                  rotate_left
                  · simp only [Act.put, List.setIfInBounds_toArray, List.set_cons_zero, List.set_cons_succ, i64_w, i32_w]
                    rfl
                  refine take_ (i := 2) (N := some 58) (v := ?_) (a' := ?_) #[true, true, true, true, true, true, false, false, true, true, true, false, false, false] rfl rfl (take_ofW HT_.out HW_.out (by kernel_rfl)) (fun _ _ _ h => h) (Or.inl ⟨by rfl, ?_⟩) hHeld ?_ ?_
                  rotate_left
                  · rintro w' ⟨s0, s1⟩
                    go_simp
                    with_reducible rfl
                  rotate_left
                  · simp only [Act.put, List.setIfInBounds_toArray, List.set_cons_zero, List.set_cons_succ, i64_w, i32_w]
                    rfl
                  refine take_ (i := 6) (N := some 62) (v := ?_) (a' := ?_) #[true, true, true, true, true, true, true, false, true, true, true, false, false, false] rfl rfl (take_ofW HT_.out HW_.out (by kernel_rfl)) (fun _ _ _ h => h) (Or.inl ⟨by rfl, ?_⟩) hHeld ?_ ?_
                  rotate_left
                  · rintro w' ⟨s0, s1⟩
                    go_simp
                    with_reducible rfl
                  rotate_left
                  · simp only [Act.put, List.setIfInBounds_toArray, List.set_cons_zero, List.set_cons_succ, i64_w, i32_w]
                    rfl
                  refine pure_ (i := 7) (N := some 63) (v := ?_) (a' := ?_) #[true, true, true, true, true, true, true, true, true, true, true, false, false, false] rfl rfl (any_of HT_.out (by kernel_rfl)) (fun _ _ _ h => h) (Or.inl ⟨by rfl, ?_⟩) ?_ ?_
                  rotate_left
                  · intro w'
                    go_simp
                    with_reducible rfl
                  rotate_left
                  · simp only [Act.put, List.setIfInBounds_toArray, List.set_cons_zero, List.set_cons_succ, i64_w, i32_w]
                    rfl
                  refine one_ (i := 11) (N := none) #[true, true, true, true, true, true, true, true, true, true, true, true, false, false] rfl rfl (one_of HT_.out (by kernel_rfl)) (by decide) (fun K hK => ?_)
                  have hs27 : w26.cell? ⟨gb123, 0, none⟩ = some (.string (⟨#[]⟩ : ByteArray)) := (blk_cell BK123.out 0).trans rfl
                  have hfs27 := blk_frozen BK123.out 0
                  have hs28 : w26.cell? ⟨gb123, 1, none⟩ = some (.int .i64 0) := (blk_cell BK123.out 1).trans rfl
                  have hfs28 := blk_frozen BK123.out 1
                  have hs29 : w26.cell? ⟨gb123, 2, none⟩ = some (.string (⟨#[]⟩ : ByteArray)) := (blk_cell BK123.out 2).trans rfl
                  have hfs29 := blk_frozen BK123.out 2
                  refine skip_ (w1 := ?_) (by rfl) rfl ?_ ?_
                  rotate_left
                  · go_simp
                    rfl
                  refine hK.out _ _ ⟨((cell_far (p := ⟨gb123, _, none⟩) (by first | exact Kd.own_blk (Kd.R_ne HO132.out BK123.out (by decide)) | (rw [add_block]; exact Kd.own_blk (Kd.R_ne HO132.out BK123.out (by decide))) | (show (Addr.add _ _).block ≠ _; rw [add_block]; exact Kd.own_blk (Kd.R_ne HO132.out BK123.out (by decide))) | (dsimp only; exact Kd.own_blk (Kd.R_ne HO132.out BK123.out (by decide)))) _).trans (((cell_far (p := ⟨gb123, _, none⟩) (by first | exact Kd.own_blk (Kd.R_ne HO132.out BK123.out (by decide)) | (rw [add_block]; exact Kd.own_blk (Kd.R_ne HO132.out BK123.out (by decide))) | (show (Addr.add _ _).block ≠ _; rw [add_block]; exact Kd.own_blk (Kd.R_ne HO132.out BK123.out (by decide))) | (dsimp only; exact Kd.own_blk (Kd.R_ne HO132.out BK123.out (by decide)))) _).trans (((cell_far (p := ⟨gb123, _, none⟩) (by first | exact Kd.own_blk (Kd.R_ne HO132.out BK123.out (by decide)) | (rw [add_block]; exact Kd.own_blk (Kd.R_ne HO132.out BK123.out (by decide))) | (show (Addr.add _ _).block ≠ _; rw [add_block]; exact Kd.own_blk (Kd.R_ne HO132.out BK123.out (by decide))) | (dsimp only; exact Kd.own_blk (Kd.R_ne HO132.out BK123.out (by decide)))) _).trans (hHeld.1)))))), ((cell_far (p := ⟨gb123, _, none⟩) (by first | exact Kd.own_blk (Kd.R_ne HO132.out BK123.out (by decide)) | (rw [add_block]; exact Kd.own_blk (Kd.R_ne HO132.out BK123.out (by decide))) | (show (Addr.add _ _).block ≠ _; rw [add_block]; exact Kd.own_blk (Kd.R_ne HO132.out BK123.out (by decide))) | (dsimp only; exact Kd.own_blk (Kd.R_ne HO132.out BK123.out (by decide)))) _).trans (((cell_far (p := ⟨gb123, _, none⟩) (by first | exact Kd.own_blk (Kd.R_ne HO132.out BK123.out (by decide)) | (rw [add_block]; exact Kd.own_blk (Kd.R_ne HO132.out BK123.out (by decide))) | (show (Addr.add _ _).block ≠ _; rw [add_block]; exact Kd.own_blk (Kd.R_ne HO132.out BK123.out (by decide))) | (dsimp only; exact Kd.own_blk (Kd.R_ne HO132.out BK123.out (by decide)))) _).trans (((cell_far (p := ⟨gb123, _, none⟩) (by first | exact Kd.own_blk (Kd.R_ne HO132.out BK123.out (by decide)) | (rw [add_block]; exact Kd.own_blk (Kd.R_ne HO132.out BK123.out (by decide))) | (show (Addr.add _ _).block ≠ _; rw [add_block]; exact Kd.own_blk (Kd.R_ne HO132.out BK123.out (by decide))) | (dsimp only; exact Kd.own_blk (Kd.R_ne HO132.out BK123.out (by decide)))) _).trans (hHeld.2))))))⟩ (fun hHeld => ?_)
                  clear hK K
                  refine pure_ (i := 12) (N := some 3) (v := ?_) (a' := ?_) #[true, true, true, true, true, true, true, true, true, true, true, true, true, false] rfl rfl (any_of HT_.out (by kernel_rfl)) (fun _ _ _ h => h) (Or.inl ⟨by rfl, ?_⟩) ?_ ?_
                  rotate_left
                  · intro w'
                    go_simp
                    with_reducible rfl
                  rotate_left
                  · simp only [Act.put, List.setIfInBounds_toArray, List.set_cons_zero, List.set_cons_succ, i64_w, i32_w]
                    rfl
                  refine pure_ (i := 13) (N := some 4) (v := ?_) (a' := ?_) #[true, true, true, true, true, true, true, true, true, true, true, true, true, true] rfl rfl (any_of HT_.out (by kernel_rfl)) (fun _ _ _ h => h) (Or.inl ⟨by rfl, ?_⟩) ?_ ?_
                  rotate_left
                  · intro w'
                    go_simp
                    with_reducible rfl
                  rotate_left
                  · simp only [Act.put, List.setIfInBounds_toArray, List.set_cons_zero, List.set_cons_succ, i64_w, i32_w]
                    rfl
                  refine done_ (done_of HT_.out (by kernel_rfl)) ?_
                  try go_wp2
                  refine bodyPost_ret (results_ctt rfl _ _ gb123 135 #[.string (rdOf ByteArray.empty t129 0), .int .i64 t135, .string (rdOf ByteArray.empty t129 2)] (0, 0) _ rfl (by (with_reducible repeat (first | refine blk_drewN ?_ _ | refine blk_drew ?_ | refine blk_alloc ?_ _)); refine blk_put (cs := #[.string (rdOf ByteArray.empty t129 0), .int .i64 t135, .string (⟨#[]⟩ : ByteArray)]) ?_ 2 _ rfl; (with_reducible repeat (first | refine blk_drewN ?_ _ | refine blk_drew ?_ | refine blk_alloc ?_ _)); refine blk_put (cs := #[.string (rdOf ByteArray.empty t129 0), .int .i64 0, .string (⟨#[]⟩ : ByteArray)]) ?_ 1 _ rfl; (with_reducible repeat (first | refine blk_drewN ?_ _ | refine blk_drew ?_ | refine blk_alloc ?_ _)); refine blk_put (cs := #[.string (⟨#[]⟩ : ByteArray), .int .i64 0, .string (⟨#[]⟩ : ByteArray)]) ?_ 0 _ rfl; (with_reducible repeat (first | refine blk_drewN ?_ _ | refine blk_drew ?_ | refine blk_alloc ?_ _)); exact BK123.out) Tryz.underlying135 rfl (by kernel_rfl)) rfl ?_
                  exact ⟨by first | rfl | (simp [errW_none, errW_some] <;> rfl) | (simp [*, errW_none, errW_some] <;> rfl), by repeat (first | (with_reducible first | exact HB.out | apply below_alloc | apply pw_below_drewN | apply below_drew1 | refine below_set ?_ GE123.out) | exact HB.out)⟩
                · rw [if_neg c19] at H
                  exact absurd H (by simp)
              · rw [if_neg c17] at H
                exact absurd H (by simp)
          · rw [if_neg c9] at H
            exact absurd H (by simp)
        · rw [if_neg c8] at H
          have c8b0 : ((t129.length : Int) == 3) = false := beq_eq_false_iff_ne.mpr c8
          have c8b1 : ((t129.length : Int) != 3) = true := bne_iff_ne.mpr c8
          simp only [Option.some.injEq, Prod.mk.injEq] at H
          obtain ⟨rfl, rfl, rfl, rfl, rfl⟩ := H
          go_enter Tryz.func83, Tryz.ntmps83
          go_wp2_with (first | ((with_reducible refine gate_dst (N := 2) rfl ?_); (try (refine gate_guard (by rfl) ?_; dsimp only)); refine box_event ?hg (N := 2) ?hd (cs := #[.string (⟨#[]⟩ : ByteArray), .int .i64 0, .string (⟨#[]⟩ : ByteArray)]) (t := 135) ?hr ?_; (case hd => rfl); (case hg => rfl); (case hr => first | (go_simp; done) | (go_simp; rfl)); intro gb123 hg w30 hbox hb; have n0_ := Aside0.mk (below_step (by repeat (first | (with_reducible first | exact HB.out | apply below_alloc | apply pw_below_drewN | apply below_drew1) | exact HB.out)) hb); have n1_ := Aside0.mk (hbox); have n2_ := Aside0.mk ((by rw [hg]; exact (below_size (by repeat (first | (with_reducible first | exact HB.out | apply below_alloc | apply pw_below_drewN | apply below_drew1) | exact HB.out))) : w.heap.size ≤ gb123)); have n3_ := Aside0.mk ((by rw [hg]; exact (below_size (by repeat (first | (with_reducible first | exact HB.out | apply below_alloc | apply pw_below_drewN | apply below_drew1) | exact HB.out))) : w.heap.size ≤ gb123)); clear HB; have HB := n0_; have BK123 := n1_; have GW123 := n2_; have GE123 := n3_; clear n0_ n1_ n2_ n3_; clear hb hbox hg) | ((with_reducible refine gate_callee (f := 89) rfl ?_); refine goesL_ (some 11) rfl rfl Tryz.func89 (by kernel_rfl) rfl #[.string a0] rfl (by (try simp only [List.map_toArray, List.map_cons, List.map_nil]); first | done | rfl | (simp only [List.length_drop, List.length_take]; rfl)) ?_; (with_reducible refine (knot_First.calls a0 t124 t125 t126 _ A2.out (gl_below HG.out (by repeat (first | (with_reducible first | exact HB.out | apply below_alloc | apply pw_below_drewN | apply below_drew1 | refine below_set ?_ GE123.out) | exact HB.out)))).mono ?_); rintro e w31 ⟨rfl, hb⟩; refine ⟨_, rfl, ?_⟩; have n0_ := Aside0.mk (blk_below (g := gb123) (o := .cells #[.string (⟨#[]⟩ : ByteArray), .int .i64 0, .string (⟨#[]⟩ : ByteArray)] 135 (0, 0)) (by (with_reducible repeat (first | refine blk_drewN ?_ _ | refine blk_drew ?_ | refine blk_alloc ?_ _)); exact BK123.out) hb); have n1_ := Aside0.mk (below_step (by repeat (first | (with_reducible first | exact HB.out | apply below_alloc | apply pw_below_drewN | apply below_drew1 | refine below_set ?_ GE123.out) | exact HB.out)) hb); clear BK123; clear HB; have BK123 := n0_; have HB := n1_; clear n0_ n1_; (try clear hb); (try clear hb2); (try clear hk); (try clear hi)) | ((with_reducible refine gate_callee (f := 103) rfl ?_); refine goesL_ (some 21) rfl rfl Tryz.func103 (by kernel_rfl) rfl #[.string t124] rfl (by (try simp only [List.map_toArray, List.map_cons, List.map_nil]); first | done | rfl | (simp only [List.length_drop, List.length_take]; rfl)) ?_; (with_reducible refine (knot_Open.calls t124 t127 t128 _ A4.out (gl_below HG.out (by repeat (first | (with_reducible first | exact HB.out | apply below_alloc | apply pw_below_drewN | apply below_drew1 | refine below_set ?_ GE123.out) | exact HB.out)))).mono ?_); rintro e w32 ⟨rfl, hb⟩; refine ⟨_, rfl, ?_⟩; have n0_ := Aside0.mk (blk_below (g := gb123) (o := .cells #[.string (⟨#[]⟩ : ByteArray), .int .i64 0, .string (⟨#[]⟩ : ByteArray)] 135 (0, 0)) (by (with_reducible repeat (first | refine blk_drewN ?_ _ | refine blk_drew ?_ | refine blk_alloc ?_ _)); exact BK123.out) hb); have n1_ := Aside0.mk (below_step (by repeat (first | (with_reducible first | exact HB.out | apply below_alloc | apply pw_below_drewN | apply below_drew1 | refine below_set ?_ GE123.out) | exact HB.out)) hb); clear BK123; clear HB; have BK123 := n0_; have HB := n1_; clear n0_ n1_; (try clear hb); (try clear hb2); (try clear hk); (try clear hi)) | ((with_reducible refine gate_callee (f := 65) rfl ?_); refine goesL_ (some 30) rfl rfl Tryz.func65 (by kernel_rfl) rfl #[.string t127] rfl (by (try simp only [List.map_toArray, List.map_cons, List.map_nil]); first | done | rfl | (simp only [List.length_drop, List.length_take]; rfl)) ?_; (with_reducible refine (knot_Untie.calls k t127 t129 t130 _ A6.out (gl_below HG.out (by repeat (first | (with_reducible first | exact HB.out | apply below_alloc | apply pw_below_drewN | apply below_drew1 | refine below_set ?_ GE123.out) | exact HB.out)))).mono ?_); rintro e w33 ⟨v131, rfl, ho0, hb⟩; refine ⟨_, rfl, ?_⟩; have n0_ := Aside0.mk (Kd.R_lower ho0 (below_size (by repeat (first | (with_reducible first | exact HB.out | apply below_alloc | apply pw_below_drewN | apply below_drew1 | refine below_set ?_ GE123.out) | exact HB.out)))); have n1_ := Aside0.mk (blk_below (g := gb123) (o := .cells #[.string (⟨#[]⟩ : ByteArray), .int .i64 0, .string (⟨#[]⟩ : ByteArray)] 135 (0, 0)) (by (with_reducible repeat (first | refine blk_drewN ?_ _ | refine blk_drew ?_ | refine blk_alloc ?_ _)); exact BK123.out) hb); have n2_ := Aside0.mk (below_step (by repeat (first | (with_reducible first | exact HB.out | apply below_alloc | apply pw_below_drewN | apply below_drew1 | refine below_set ?_ GE123.out) | exact HB.out)) hb); clear BK123; clear HB; have HO132 := n0_; have BK123 := n1_; have HB := n2_; clear n0_ n1_ n2_; (try clear hb); (try clear hb2); (try clear hk); (try clear hi); (try clear ho0); obtain ⟨Ao34, co34, eo34⟩ := Kd.R_slice HO132.out; subst eo34; have hcz35_0 : w33.cell? ⟨gb123, 0, none⟩ = some (.string (⟨#[]⟩ : ByteArray)) := (blk_cell BK123.out 0).trans rfl; have hcz35_1 : w33.cell? ⟨gb123, 1, none⟩ = some (.int .i64 0) := (blk_cell BK123.out 1).trans rfl; have hcz35_2 : w33.cell? ⟨gb123, 2, none⟩ = some (.string (⟨#[]⟩ : ByteArray)) := (blk_cell BK123.out 2).trans rfl; have hfz35_0 := blk_frozen BK123.out 0; have hfz35_1 := blk_frozen BK123.out 1; have hfz35_2 := blk_frozen BK123.out 2))
          refine bodyPost_ret (results_ctt rfl _ _ gb123 135 #[.string (⟨#[]⟩ : ByteArray), .int .i64 0, .string (⟨#[]⟩ : ByteArray)] (0, 0) _ rfl (by (with_reducible repeat (first | refine blk_drewN ?_ _ | refine blk_drew ?_ | refine blk_alloc ?_ _)); refine blk_put (cs := #[.string (⟨#[]⟩ : ByteArray), .int .i64 0, .string (⟨#[]⟩ : ByteArray)]) ?_ 2 _ rfl; (with_reducible repeat (first | refine blk_drewN ?_ _ | refine blk_drew ?_ | refine blk_alloc ?_ _)); refine blk_put (cs := #[.string (⟨#[]⟩ : ByteArray), .int .i64 0, .string (⟨#[]⟩ : ByteArray)]) ?_ 1 _ rfl; (with_reducible repeat (first | refine blk_drewN ?_ _ | refine blk_drew ?_ | refine blk_alloc ?_ _)); refine blk_put (cs := #[.string (⟨#[]⟩ : ByteArray), .int .i64 0, .string (⟨#[]⟩ : ByteArray)]) ?_ 0 _ rfl; (with_reducible repeat (first | refine blk_drewN ?_ _ | refine blk_drew ?_ | refine blk_alloc ?_ _)); exact BK123.out) Tryz.underlying135 rfl (by kernel_rfl)) rfl ?_
          exact ⟨by first | rfl | (simp [errW_none, errW_some] <;> rfl) | (simp [*, errW_none, errW_some] <;> rfl), by repeat (first | (with_reducible first | exact HB.out | apply below_alloc | apply pw_below_drewN | apply below_drew1 | refine below_set ?_ GE123.out) | exact HB.out)⟩
      · rw [if_neg c7] at H
        have c7b0 : (t130 == 0) = false := beq_eq_false_iff_ne.mpr c7
        have c7b1 : (t130 != 0) = true := bne_iff_ne.mpr c7
        simp only [Option.some.injEq, Prod.mk.injEq] at H
        obtain ⟨rfl, rfl, rfl, rfl, rfl⟩ := H
        go_enter Tryz.func83, Tryz.ntmps83
        go_wp2_with (first | ((with_reducible refine gate_dst (N := 2) rfl ?_); (try (refine gate_guard (by rfl) ?_; dsimp only)); refine box_event ?hg (N := 2) ?hd (cs := #[.string (⟨#[]⟩ : ByteArray), .int .i64 0, .string (⟨#[]⟩ : ByteArray)]) (t := 135) ?hr ?_; (case hd => rfl); (case hg => rfl); (case hr => first | (go_simp; done) | (go_simp; rfl)); intro gb123 hg w36 hbox hb; have n0_ := Aside0.mk (below_step (by repeat (first | (with_reducible first | exact HB.out | apply below_alloc | apply pw_below_drewN | apply below_drew1) | exact HB.out)) hb); have n1_ := Aside0.mk (hbox); have n2_ := Aside0.mk ((by rw [hg]; exact (below_size (by repeat (first | (with_reducible first | exact HB.out | apply below_alloc | apply pw_below_drewN | apply below_drew1) | exact HB.out))) : w.heap.size ≤ gb123)); have n3_ := Aside0.mk ((by rw [hg]; exact (below_size (by repeat (first | (with_reducible first | exact HB.out | apply below_alloc | apply pw_below_drewN | apply below_drew1) | exact HB.out))) : w.heap.size ≤ gb123)); clear HB; have HB := n0_; have BK123 := n1_; have GW123 := n2_; have GE123 := n3_; clear n0_ n1_ n2_ n3_; clear hb hbox hg) | ((with_reducible refine gate_callee (f := 89) rfl ?_); refine goesL_ (some 11) rfl rfl Tryz.func89 (by kernel_rfl) rfl #[.string a0] rfl (by (try simp only [List.map_toArray, List.map_cons, List.map_nil]); first | done | rfl | (simp only [List.length_drop, List.length_take]; rfl)) ?_; (with_reducible refine (knot_First.calls a0 t124 t125 t126 _ A2.out (gl_below HG.out (by repeat (first | (with_reducible first | exact HB.out | apply below_alloc | apply pw_below_drewN | apply below_drew1 | refine below_set ?_ GE123.out) | exact HB.out)))).mono ?_); rintro e w37 ⟨rfl, hb⟩; refine ⟨_, rfl, ?_⟩; have n0_ := Aside0.mk (blk_below (g := gb123) (o := .cells #[.string (⟨#[]⟩ : ByteArray), .int .i64 0, .string (⟨#[]⟩ : ByteArray)] 135 (0, 0)) (by (with_reducible repeat (first | refine blk_drewN ?_ _ | refine blk_drew ?_ | refine blk_alloc ?_ _)); exact BK123.out) hb); have n1_ := Aside0.mk (below_step (by repeat (first | (with_reducible first | exact HB.out | apply below_alloc | apply pw_below_drewN | apply below_drew1 | refine below_set ?_ GE123.out) | exact HB.out)) hb); clear BK123; clear HB; have BK123 := n0_; have HB := n1_; clear n0_ n1_; (try clear hb); (try clear hb2); (try clear hk); (try clear hi)) | ((with_reducible refine gate_callee (f := 103) rfl ?_); refine goesL_ (some 21) rfl rfl Tryz.func103 (by kernel_rfl) rfl #[.string t124] rfl (by (try simp only [List.map_toArray, List.map_cons, List.map_nil]); first | done | rfl | (simp only [List.length_drop, List.length_take]; rfl)) ?_; (with_reducible refine (knot_Open.calls t124 t127 t128 _ A4.out (gl_below HG.out (by repeat (first | (with_reducible first | exact HB.out | apply below_alloc | apply pw_below_drewN | apply below_drew1 | refine below_set ?_ GE123.out) | exact HB.out)))).mono ?_); rintro e w38 ⟨rfl, hb⟩; refine ⟨_, rfl, ?_⟩; have n0_ := Aside0.mk (blk_below (g := gb123) (o := .cells #[.string (⟨#[]⟩ : ByteArray), .int .i64 0, .string (⟨#[]⟩ : ByteArray)] 135 (0, 0)) (by (with_reducible repeat (first | refine blk_drewN ?_ _ | refine blk_drew ?_ | refine blk_alloc ?_ _)); exact BK123.out) hb); have n1_ := Aside0.mk (below_step (by repeat (first | (with_reducible first | exact HB.out | apply below_alloc | apply pw_below_drewN | apply below_drew1 | refine below_set ?_ GE123.out) | exact HB.out)) hb); clear BK123; clear HB; have BK123 := n0_; have HB := n1_; clear n0_ n1_; (try clear hb); (try clear hb2); (try clear hk); (try clear hi)) | ((with_reducible refine gate_callee (f := 65) rfl ?_); refine goesL_ (some 30) rfl rfl Tryz.func65 (by kernel_rfl) rfl #[.string t127] rfl (by (try simp only [List.map_toArray, List.map_cons, List.map_nil]); first | done | rfl | (simp only [List.length_drop, List.length_take]; rfl)) ?_; (with_reducible refine (knot_Untie.calls k t127 t129 t130 _ A6.out (gl_below HG.out (by repeat (first | (with_reducible first | exact HB.out | apply below_alloc | apply pw_below_drewN | apply below_drew1 | refine below_set ?_ GE123.out) | exact HB.out)))).mono ?_); rintro e w39 ⟨v131, rfl, ho0, hb⟩; refine ⟨_, rfl, ?_⟩; have n0_ := Aside0.mk (Kd.R_lower ho0 (below_size (by repeat (first | (with_reducible first | exact HB.out | apply below_alloc | apply pw_below_drewN | apply below_drew1 | refine below_set ?_ GE123.out) | exact HB.out)))); have n1_ := Aside0.mk (blk_below (g := gb123) (o := .cells #[.string (⟨#[]⟩ : ByteArray), .int .i64 0, .string (⟨#[]⟩ : ByteArray)] 135 (0, 0)) (by (with_reducible repeat (first | refine blk_drewN ?_ _ | refine blk_drew ?_ | refine blk_alloc ?_ _)); exact BK123.out) hb); have n2_ := Aside0.mk (below_step (by repeat (first | (with_reducible first | exact HB.out | apply below_alloc | apply pw_below_drewN | apply below_drew1 | refine below_set ?_ GE123.out) | exact HB.out)) hb); clear BK123; clear HB; have HO132 := n0_; have BK123 := n1_; have HB := n2_; clear n0_ n1_ n2_; (try clear hb); (try clear hb2); (try clear hk); (try clear hi); (try clear ho0); have hcz40_0 : w39.cell? ⟨gb123, 0, none⟩ = some (.string (⟨#[]⟩ : ByteArray)) := (blk_cell BK123.out 0).trans rfl; have hcz40_1 : w39.cell? ⟨gb123, 1, none⟩ = some (.int .i64 0) := (blk_cell BK123.out 1).trans rfl; have hcz40_2 : w39.cell? ⟨gb123, 2, none⟩ = some (.string (⟨#[]⟩ : ByteArray)) := (blk_cell BK123.out 2).trans rfl; have hfz40_0 := blk_frozen BK123.out 0; have hfz40_1 := blk_frozen BK123.out 1; have hfz40_2 := blk_frozen BK123.out 2))
        refine bodyPost_ret (results_ctt rfl _ _ gb123 135 #[.string (⟨#[]⟩ : ByteArray), .int .i64 0, .string (⟨#[]⟩ : ByteArray)] (0, 0) _ rfl (by (with_reducible repeat (first | refine blk_drewN ?_ _ | refine blk_drew ?_ | refine blk_alloc ?_ _)); refine blk_put (cs := #[.string (⟨#[]⟩ : ByteArray), .int .i64 0, .string (⟨#[]⟩ : ByteArray)]) ?_ 2 _ rfl; (with_reducible repeat (first | refine blk_drewN ?_ _ | refine blk_drew ?_ | refine blk_alloc ?_ _)); refine blk_put (cs := #[.string (⟨#[]⟩ : ByteArray), .int .i64 0, .string (⟨#[]⟩ : ByteArray)]) ?_ 1 _ rfl; (with_reducible repeat (first | refine blk_drewN ?_ _ | refine blk_drew ?_ | refine blk_alloc ?_ _)); refine blk_put (cs := #[.string (⟨#[]⟩ : ByteArray), .int .i64 0, .string (⟨#[]⟩ : ByteArray)]) ?_ 0 _ rfl; (with_reducible repeat (first | refine blk_drewN ?_ _ | refine blk_drew ?_ | refine blk_alloc ?_ _)); exact BK123.out) Tryz.underlying135 rfl (by kernel_rfl)) rfl ?_
        exact ⟨by first | rfl | (simp [errW_none, errW_some] <;> rfl) | (simp [*, errW_none, errW_some] <;> rfl), by repeat (first | (with_reducible first | exact HB.out | apply below_alloc | apply pw_below_drewN | apply below_drew1 | refine below_set ?_ GE123.out) | exact HB.out)⟩
    · rw [if_neg c5] at H
      have c5b0 : (t128 == 0) = false := beq_eq_false_iff_ne.mpr c5
      have c5b1 : (t128 != 0) = true := bne_iff_ne.mpr c5
      simp only [Option.some.injEq, Prod.mk.injEq] at H
      obtain ⟨rfl, rfl, rfl, rfl, rfl⟩ := H
      go_enter Tryz.func83, Tryz.ntmps83
      go_wp2_with (first | ((with_reducible refine gate_dst (N := 2) rfl ?_); (try (refine gate_guard (by rfl) ?_; dsimp only)); refine box_event ?hg (N := 2) ?hd (cs := #[.string (⟨#[]⟩ : ByteArray), .int .i64 0, .string (⟨#[]⟩ : ByteArray)]) (t := 135) ?hr ?_; (case hd => rfl); (case hg => rfl); (case hr => first | (go_simp; done) | (go_simp; rfl)); intro gb123 hg w41 hbox hb; have n0_ := Aside0.mk (below_step (by repeat (first | (with_reducible first | exact HB.out | apply below_alloc | apply pw_below_drewN | apply below_drew1) | exact HB.out)) hb); have n1_ := Aside0.mk (hbox); have n2_ := Aside0.mk ((by rw [hg]; exact (below_size (by repeat (first | (with_reducible first | exact HB.out | apply below_alloc | apply pw_below_drewN | apply below_drew1) | exact HB.out))) : w.heap.size ≤ gb123)); have n3_ := Aside0.mk ((by rw [hg]; exact (below_size (by repeat (first | (with_reducible first | exact HB.out | apply below_alloc | apply pw_below_drewN | apply below_drew1) | exact HB.out))) : w.heap.size ≤ gb123)); clear HB; have HB := n0_; have BK123 := n1_; have GW123 := n2_; have GE123 := n3_; clear n0_ n1_ n2_ n3_; clear hb hbox hg) | ((with_reducible refine gate_callee (f := 89) rfl ?_); refine goesL_ (some 11) rfl rfl Tryz.func89 (by kernel_rfl) rfl #[.string a0] rfl (by (try simp only [List.map_toArray, List.map_cons, List.map_nil]); first | done | rfl | (simp only [List.length_drop, List.length_take]; rfl)) ?_; (with_reducible refine (knot_First.calls a0 t124 t125 t126 _ A2.out (gl_below HG.out (by repeat (first | (with_reducible first | exact HB.out | apply below_alloc | apply pw_below_drewN | apply below_drew1 | refine below_set ?_ GE123.out) | exact HB.out)))).mono ?_); rintro e w42 ⟨rfl, hb⟩; refine ⟨_, rfl, ?_⟩; have n0_ := Aside0.mk (blk_below (g := gb123) (o := .cells #[.string (⟨#[]⟩ : ByteArray), .int .i64 0, .string (⟨#[]⟩ : ByteArray)] 135 (0, 0)) (by (with_reducible repeat (first | refine blk_drewN ?_ _ | refine blk_drew ?_ | refine blk_alloc ?_ _)); exact BK123.out) hb); have n1_ := Aside0.mk (below_step (by repeat (first | (with_reducible first | exact HB.out | apply below_alloc | apply pw_below_drewN | apply below_drew1 | refine below_set ?_ GE123.out) | exact HB.out)) hb); clear BK123; clear HB; have BK123 := n0_; have HB := n1_; clear n0_ n1_; (try clear hb); (try clear hb2); (try clear hk); (try clear hi)) | ((with_reducible refine gate_callee (f := 103) rfl ?_); refine goesL_ (some 21) rfl rfl Tryz.func103 (by kernel_rfl) rfl #[.string t124] rfl (by (try simp only [List.map_toArray, List.map_cons, List.map_nil]); first | done | rfl | (simp only [List.length_drop, List.length_take]; rfl)) ?_; (with_reducible refine (knot_Open.calls t124 t127 t128 _ A4.out (gl_below HG.out (by repeat (first | (with_reducible first | exact HB.out | apply below_alloc | apply pw_below_drewN | apply below_drew1 | refine below_set ?_ GE123.out) | exact HB.out)))).mono ?_); rintro e w43 ⟨rfl, hb⟩; refine ⟨_, rfl, ?_⟩; have n0_ := Aside0.mk (blk_below (g := gb123) (o := .cells #[.string (⟨#[]⟩ : ByteArray), .int .i64 0, .string (⟨#[]⟩ : ByteArray)] 135 (0, 0)) (by (with_reducible repeat (first | refine blk_drewN ?_ _ | refine blk_drew ?_ | refine blk_alloc ?_ _)); exact BK123.out) hb); have n1_ := Aside0.mk (below_step (by repeat (first | (with_reducible first | exact HB.out | apply below_alloc | apply pw_below_drewN | apply below_drew1 | refine below_set ?_ GE123.out) | exact HB.out)) hb); clear BK123; clear HB; have BK123 := n0_; have HB := n1_; clear n0_ n1_; (try clear hb); (try clear hb2); (try clear hk); (try clear hi); have hcz44_0 : w43.cell? ⟨gb123, 0, none⟩ = some (.string (⟨#[]⟩ : ByteArray)) := (blk_cell BK123.out 0).trans rfl; have hcz44_1 : w43.cell? ⟨gb123, 1, none⟩ = some (.int .i64 0) := (blk_cell BK123.out 1).trans rfl; have hcz44_2 : w43.cell? ⟨gb123, 2, none⟩ = some (.string (⟨#[]⟩ : ByteArray)) := (blk_cell BK123.out 2).trans rfl; have hfz44_0 := blk_frozen BK123.out 0; have hfz44_1 := blk_frozen BK123.out 1; have hfz44_2 := blk_frozen BK123.out 2))
      refine bodyPost_ret (results_ctt rfl _ _ gb123 135 #[.string (⟨#[]⟩ : ByteArray), .int .i64 0, .string (⟨#[]⟩ : ByteArray)] (0, 0) _ rfl (by (with_reducible repeat (first | refine blk_drewN ?_ _ | refine blk_drew ?_ | refine blk_alloc ?_ _)); refine blk_put (cs := #[.string (⟨#[]⟩ : ByteArray), .int .i64 0, .string (⟨#[]⟩ : ByteArray)]) ?_ 2 _ rfl; (with_reducible repeat (first | refine blk_drewN ?_ _ | refine blk_drew ?_ | refine blk_alloc ?_ _)); refine blk_put (cs := #[.string (⟨#[]⟩ : ByteArray), .int .i64 0, .string (⟨#[]⟩ : ByteArray)]) ?_ 1 _ rfl; (with_reducible repeat (first | refine blk_drewN ?_ _ | refine blk_drew ?_ | refine blk_alloc ?_ _)); refine blk_put (cs := #[.string (⟨#[]⟩ : ByteArray), .int .i64 0, .string (⟨#[]⟩ : ByteArray)]) ?_ 0 _ rfl; (with_reducible repeat (first | refine blk_drewN ?_ _ | refine blk_drew ?_ | refine blk_alloc ?_ _)); exact BK123.out) Tryz.underlying135 rfl (by kernel_rfl)) rfl ?_
      exact ⟨by first | rfl | (simp [errW_none, errW_some] <;> rfl) | (simp [*, errW_none, errW_some] <;> rfl), by repeat (first | (with_reducible first | exact HB.out | apply below_alloc | apply pw_below_drewN | apply below_drew1 | refine below_set ?_ GE123.out) | exact HB.out)⟩
  · rw [if_neg c3] at H
    have c3b0 : (t126 == 0) = false := beq_eq_false_iff_ne.mpr c3
    have c3b1 : (t126 != 0) = true := bne_iff_ne.mpr c3
    simp only [Option.some.injEq, Prod.mk.injEq] at H
    obtain ⟨rfl, rfl, rfl, rfl, rfl⟩ := H
    go_enter Tryz.func83, Tryz.ntmps83
    go_wp2_with (first | ((with_reducible refine gate_dst (N := 2) rfl ?_); (try (refine gate_guard (by rfl) ?_; dsimp only)); refine box_event ?hg (N := 2) ?hd (cs := #[.string (⟨#[]⟩ : ByteArray), .int .i64 0, .string (⟨#[]⟩ : ByteArray)]) (t := 135) ?hr ?_; (case hd => rfl); (case hg => rfl); (case hr => first | (go_simp; done) | (go_simp; rfl)); intro gb123 hg w45 hbox hb; have n0_ := Aside0.mk (below_step (by repeat (first | (with_reducible first | exact HB.out | apply below_alloc | apply pw_below_drewN | apply below_drew1) | exact HB.out)) hb); have n1_ := Aside0.mk (hbox); have n2_ := Aside0.mk ((by rw [hg]; exact (below_size (by repeat (first | (with_reducible first | exact HB.out | apply below_alloc | apply pw_below_drewN | apply below_drew1) | exact HB.out))) : w.heap.size ≤ gb123)); have n3_ := Aside0.mk ((by rw [hg]; exact (below_size (by repeat (first | (with_reducible first | exact HB.out | apply below_alloc | apply pw_below_drewN | apply below_drew1) | exact HB.out))) : w.heap.size ≤ gb123)); clear HB; have HB := n0_; have BK123 := n1_; have GW123 := n2_; have GE123 := n3_; clear n0_ n1_ n2_ n3_; clear hb hbox hg) | ((with_reducible refine gate_callee (f := 89) rfl ?_); refine goesL_ (some 11) rfl rfl Tryz.func89 (by kernel_rfl) rfl #[.string a0] rfl (by (try simp only [List.map_toArray, List.map_cons, List.map_nil]); first | done | rfl | (simp only [List.length_drop, List.length_take]; rfl)) ?_; (with_reducible refine (knot_First.calls a0 t124 t125 t126 _ A2.out (gl_below HG.out (by repeat (first | (with_reducible first | exact HB.out | apply below_alloc | apply pw_below_drewN | apply below_drew1 | refine below_set ?_ GE123.out) | exact HB.out)))).mono ?_); rintro e w46 ⟨rfl, hb⟩; refine ⟨_, rfl, ?_⟩; have n0_ := Aside0.mk (blk_below (g := gb123) (o := .cells #[.string (⟨#[]⟩ : ByteArray), .int .i64 0, .string (⟨#[]⟩ : ByteArray)] 135 (0, 0)) (by (with_reducible repeat (first | refine blk_drewN ?_ _ | refine blk_drew ?_ | refine blk_alloc ?_ _)); exact BK123.out) hb); have n1_ := Aside0.mk (below_step (by repeat (first | (with_reducible first | exact HB.out | apply below_alloc | apply pw_below_drewN | apply below_drew1 | refine below_set ?_ GE123.out) | exact HB.out)) hb); clear BK123; clear HB; have BK123 := n0_; have HB := n1_; clear n0_ n1_; (try clear hb); (try clear hb2); (try clear hk); (try clear hi); have hcz47_0 : w46.cell? ⟨gb123, 0, none⟩ = some (.string (⟨#[]⟩ : ByteArray)) := (blk_cell BK123.out 0).trans rfl; have hcz47_1 : w46.cell? ⟨gb123, 1, none⟩ = some (.int .i64 0) := (blk_cell BK123.out 1).trans rfl; have hcz47_2 : w46.cell? ⟨gb123, 2, none⟩ = some (.string (⟨#[]⟩ : ByteArray)) := (blk_cell BK123.out 2).trans rfl; have hfz47_0 := blk_frozen BK123.out 0; have hfz47_1 := blk_frozen BK123.out 1; have hfz47_2 := blk_frozen BK123.out 2))
    refine bodyPost_ret (results_ctt rfl _ _ gb123 135 #[.string (⟨#[]⟩ : ByteArray), .int .i64 0, .string (⟨#[]⟩ : ByteArray)] (0, 0) _ rfl (by (with_reducible repeat (first | refine blk_drewN ?_ _ | refine blk_drew ?_ | refine blk_alloc ?_ _)); refine blk_put (cs := #[.string (⟨#[]⟩ : ByteArray), .int .i64 0, .string (⟨#[]⟩ : ByteArray)]) ?_ 2 _ rfl; (with_reducible repeat (first | refine blk_drewN ?_ _ | refine blk_drew ?_ | refine blk_alloc ?_ _)); refine blk_put (cs := #[.string (⟨#[]⟩ : ByteArray), .int .i64 0, .string (⟨#[]⟩ : ByteArray)]) ?_ 1 _ rfl; (with_reducible repeat (first | refine blk_drewN ?_ _ | refine blk_drew ?_ | refine blk_alloc ?_ _)); refine blk_put (cs := #[.string (⟨#[]⟩ : ByteArray), .int .i64 0, .string (⟨#[]⟩ : ByteArray)]) ?_ 0 _ rfl; (with_reducible repeat (first | refine blk_drewN ?_ _ | refine blk_drew ?_ | refine blk_alloc ?_ _)); exact BK123.out) Tryz.underlying135 rfl (by kernel_rfl)) rfl ?_
    exact ⟨by first | rfl | (simp [errW_none, errW_some] <;> rfl) | (simp [*, errW_none, errW_some] <;> rfl), by repeat (first | (with_reducible first | exact HB.out | apply below_alloc | apply pw_below_drewN | apply below_drew1 | refine below_set ?_ GE123.out) | exact HB.out)⟩

end Go.Proofs.YtopajmbblemopaaGreatDoor.XPg
namespace Go.Proofs.YtopajmbblemopaaGreatDoor.XPg
open Go.RowKit Go.Proofs.YtopajmbblemopaaGreatDoorW.PrintWords Go.Proofs.YtopajmbblemopaaGreatDoorW.PrintLast Go.Proofs.YtopajmbblemopaaGreatDoorW.PrintMore
attribute [local go_sem] max2_int min2_int max_two min_two max_three min_three max_four min_four   -- for this text's walks alone
set_option linter.unusedVariables false
set_option linter.unusedSimpArgs false

/-! ### ledger_scan: function 53 -/
mutual
def ledger_scan.l0 : Nat → ByteArray → ByteArray → Int → ByteArray → List ByteArray → Int → Option (Int × ByteArray × List ByteArray × Int)
  | 0, _, _, _, _, _, _ => none
  | k + 1, x0, x3, x140000, x140001, x140002, x140003 => (ledger_read.f k x3).bind fun bt140 => (if bt140.2.2.2.2 = true then (if x140000 = 0 then (if bt140.1.toList = ([98, 97, 115, 101] : List UInt8) then (if bt140.2.1 ≥ 1 then (ledger_scan.j1 k x0 bt140.2.2.2.1 (decide (bt140.2.1 ≤ 4611686018427387904)) x140000 x140001 x140002 x140003 bt140.1 bt140.2.1 bt140.2.2.1) else (ledger_scan.j1 k x0 bt140.2.2.2.1 false x140000 x140001 x140002 x140003 bt140.1 bt140.2.1 bt140.2.2.1)) else (ledger_scan.j1 k x0 bt140.2.2.2.1 false x140000 x140001 x140002 x140003 bt140.1 bt140.2.1 bt140.2.2.1)) else (ledger_scan.j1 k x0 bt140.2.2.2.1 false x140000 x140001 x140002 x140003 bt140.1 bt140.2.1 bt140.2.2.1)) else (some (x140000, x140001, x140002, x140003)))
def ledger_scan.j1 : Nat → ByteArray → ByteArray → Bool → Int → ByteArray → List ByteArray → Int → ByteArray → Int → ByteArray → Option (Int × ByteArray × List ByteArray × Int)
  | 0, _, _, _, _, _, _, _, _, _, _ => none
  | k + 1, x0, x5, x17, x140000, x140001, x140002, x140003, x146000, x146001, x146002 => if x17 = true then (ledger_scan.l0 k x0 x5 x146001 x146002 x140002 (wrap64 ((x0.size : Int) - (x5.size : Int)))) else (if x140000 > 0 then (if x146000.toList = ([114, 101, 99] : List UInt8) then (if x146001 = (wrap64 ((x140002.length : Int) + 1)) then (if x140002.length < 8796093022208 then (ledger_scan.l0 k x0 x5 x140000 x140001 (x140002 ++ [x146002]) (wrap64 ((x0.size : Int) - (x5.size : Int)))) else (none)) else (some (x140000, x140001, x140002, x140003))) else (some (x140000, x140001, x140002, x140003))) else (some (x140000, x140001, x140002, x140003)))
end
def ledger_scan.f (k : Nat) (a0 : ByteArray) : Option (Int × ByteArray × List ByteArray × Int) := ledger_scan.l0 k a0 a0 0 (⟨#[]⟩ : ByteArray) ([] : List ByteArray) 0
theorem ledger_scan.mono_l : ∀ k, (∀ y0 y1 y2 y3 y4 y5, LeO (ledger_scan.l0 k y0 y1 y2 y3 y4 y5) (ledger_scan.l0 (k + 1) y0 y1 y2 y3 y4 y5)) ∧ (∀ y0 y1 y2 y3 y4 y5 y6 y7 y8 y9, LeO (ledger_scan.j1 k y0 y1 y2 y3 y4 y5 y6 y7 y8 y9) (ledger_scan.j1 (k + 1) y0 y1 y2 y3 y4 y5 y6 y7 y8 y9))
  | 0 => ⟨fun _ _ _ _ _ _ r h => by simp [ledger_scan.l0] at h, fun _ _ _ _ _ _ _ _ _ _ r h => by simp [ledger_scan.j1] at h⟩
  | k + 1 => by
    obtain ⟨ih0, ih1⟩ := ledger_scan.mono_l k
    refine ⟨?_, ?_⟩
    · intro y0 y1 y2 y3 y4 y5
      unfold ledger_scan.l0
      repeat' first
      | (with_reducible exact ih0 _ _ _ _ _ _)
      | (with_reducible exact ih1 _ _ _ _ _ _ _ _ _ _)
      | (with_reducible exact ledger_read.mono _ _)
      | (with_reducible exact LeO.refl _)
      | (with_reducible exact LeO.none _)
      | (with_reducible refine LeO.ite ?_ ?_)
      | (with_reducible refine LeO.bind ?_ (fun _ => ?_))
      | exact ih0 _ _ _ _ _ _
      | exact ih1 _ _ _ _ _ _ _ _ _ _
      | exact ledger_read.mono _ _
      | exact LeO.none _
      | refine LeO.ite ?_ ?_
      | refine LeO.bind ?_ (fun _ => ?_)
    · intro y0 y1 y2 y3 y4 y5 y6 y7 y8 y9
      unfold ledger_scan.j1
      repeat' first
      | (with_reducible exact ih0 _ _ _ _ _ _)
      | (with_reducible exact ih1 _ _ _ _ _ _ _ _ _ _)
      | (with_reducible exact ledger_read.mono _ _)
      | (with_reducible exact LeO.refl _)
      | (with_reducible exact LeO.none _)
      | (with_reducible refine LeO.ite ?_ ?_)
      | (with_reducible refine LeO.bind ?_ (fun _ => ?_))
      | exact ih0 _ _ _ _ _ _
      | exact ih1 _ _ _ _ _ _ _ _ _ _
      | exact ledger_read.mono _ _
      | exact LeO.none _
      | refine LeO.ite ?_ ?_
      | refine LeO.bind ?_ (fun _ => ?_)
theorem ledger_scan.mono : ∀ a0 k, LeO (ledger_scan.f k a0) (ledger_scan.f (k + 1) a0) := by
  intro a0 k
  obtain ⟨ih0, ih1⟩ := ledger_scan.mono_l k
  unfold ledger_scan.f
  repeat' first
      | (with_reducible exact ih0 _ _ _ _ _ _)
      | (with_reducible exact ih1 _ _ _ _ _ _ _ _ _ _)
      | (with_reducible exact ledger_read.mono _ _)
      | (with_reducible exact LeO.refl _)
      | (with_reducible exact LeO.none _)
      | (with_reducible refine LeO.ite ?_ ?_)
      | (with_reducible refine LeO.bind ?_ (fun _ => ?_))
      | exact ih0 _ _ _ _ _ _
      | exact ih1 _ _ _ _ _ _ _ _ _ _
      | exact ledger_read.mono _ _
      | exact LeO.none _
      | refine LeO.ite ?_ ?_
      | refine LeO.bind ?_ (fun _ => ?_)
def ledger_scan.T5 : Bool × List (List Nat × List Nat) := (true, [([], []), ([0], [0]), ([], []), ([2], [2]), ([0, 1], []), ([4, 1, 0, 1], [1, 4]), ([0, 1, 2, 3, 4, 5], []), ([6, 3, 5, 0, 1, 2, 3, 4, 5], [3, 6])])
def ledger_scan.B5 : List Nat := [0, 1, 0, 4, 3, 19, 63, 127]
theorem ledger_scan.tab5 : rtab .any (opsOf Tryz.f53 5) = ledger_scan.T5 := by kernel_rfl
theorem ledger_scan.bits5 : waitsOk ledger_scan.T5.2 ledger_scan.B5 = true := by kernel_rfl
set_option maxHeartbeats 8000000 in
set_option maxRecDepth 100000 in
theorem ledger_scan.calls (k : Nat) (a0 : ByteArray) (r1 : Int) (r2 : ByteArray) (r3 : List ByteArray) (r4 : Int) (w : World) (h : ledger_scan.f k a0 = some (r1, r2, r3, r4)) (hG : Gl w) :
    Calls Tryz.prog 53 #[.string a0] w fun e w' => ∃ v2_ : Value, e = .returned (.agg #[.int .i64 r1, .string r2, v2_, .int .i64 r4]) ∧ Kd.R Kd.string 9 w' w.heap.size (fun _ => True) v2_ r3 ∧ Below w.heap.size w w' := by
  have HG := Aside0.mk hG
  clear hG
  have hu105 := Tryz.underlying105
  have hu135 := Tryz.underlying135
  have HB := Aside0.mk (Below.refl w.heap.size w)
  have H : (ledger_scan.l0 k a0 a0 0 (⟨#[]⟩ : ByteArray) ([] : List ByteArray) 0) = some (r1, r2, r3, r4) := h
  clear h
  have H' := Aside0.mk H
  clear H
  go_enter Tryz.func53, Tryz.ntmps53
  go_wp2_with (first | ((with_reducible refine gate_dst (N := 2) rfl ?_); (try (refine gate_guard (by rfl) ?_; dsimp only)); refine box_event ?hg (N := 2) ?hd (cs := #[.int .i64 0, .string (⟨#[]⟩ : ByteArray), .slice none 0 0, .int .i64 0]) (t := 105) ?hr ?_; (case hd => rfl); (case hg => rfl); (case hr => first | (go_simp; done) | (go_simp; rfl)); intro gb139 hg w2 hbox hb; have n0_ := Aside0.mk (below_step (by repeat (first | (with_reducible first | exact HB.out | apply below_alloc | apply pw_below_drewN | apply below_drew1) | exact HB.out)) hb); have n1_ := Aside0.mk (hbox); have n2_ := Aside0.mk ((by rw [hg]; exact (below_size (by repeat (first | (with_reducible first | exact HB.out | apply below_alloc | apply pw_below_drewN | apply below_drew1) | exact HB.out))) : w.heap.size ≤ gb139)); have n3_ := Aside0.mk ((by rw [hg]; exact (below_size (by repeat (first | (with_reducible first | exact HB.out | apply below_alloc | apply pw_below_drewN | apply below_drew1) | exact HB.out))) : w.heap.size ≤ gb139)); clear HB; have HB := n0_; have BK139 := n1_; have GW139 := n2_; have GE139 := n3_; clear n0_ n1_ n2_ n3_; clear hb hbox hg))
  repeat (go_step3; go_wp2_with (fail))
  go_loopg [3] k (fun kq v3 w' => ∃ (x3_1 : ByteArray) (x140000_1 : Int) (x140001_1 : ByteArray) (x140002_1 : List ByteArray) (x140003_1 : Int) (u140002 : Value), v3 = .string x3_1 ∧ Aside0 (ledger_scan.l0 kq a0 x3_1 x140000_1 x140001_1 x140002_1 x140003_1 = some (r1, r2, r3, r4)) ∧ Aside0 (kq ≤ k) ∧ Aside0 (Kd.R Kd.string 9 w' w.heap.size (fun _ => True) u140002 x140002_1) ∧ Aside0 (w'.heap[gb139]? = some (.cells #[.int .i64 x140000_1, .string x140001_1, u140002, .int .i64 x140003_1] 105 (0, 0))) ∧ Aside0 (Below w.heap.size w w'))
  case atStart => exact ⟨(a0), (0), ((⟨#[]⟩ : ByteArray)), (([] : List ByteArray)), (0), (.slice none 0 0), (by first | rfl | (simp; done) | (simp [*]; done)), H', ⟨Nat.le_refl _⟩, ⟨by first | exact Kd.R_nil _ _ _ _ _ | exact Kd.N_nil _ _ _ _ _ | exact Kd.V_nil _ _ _ _ _ | exact Kd.Q_nil _ _ _ _ _ | exact Kd.S_nil _ _ _ _ _⟩, ⟨by (with_reducible repeat (first | refine blk_drewN ?_ _ | refine blk_drew ?_ | refine blk_alloc ?_ _)); exact BK139.out⟩, ⟨by repeat (first | (with_reducible first | exact HB.out | apply below_alloc | apply pw_below_drewN | apply below_drew1 | refine below_set ?_ GE139.out) | exact HB.out)⟩⟩
  case round =>
    clear H'
    try clear p2
    obtain ⟨x3_1, x140000_1, x140001_1, x140002_1, x140003_1, u140002, rfl, HA, HK1, HO_140002, BK139, HB⟩ := hrel
    cases gk with
    | zero => exact absurd HA.out (by simp [ledger_scan.l0])
    | succ k1 =>
      have H := HA.out
      clear HA
      simp only [ledger_scan.l0] at H
      replace H := Option.bind_eq_some_iff.mp H
      obtain ⟨⟨t140, t141, t142, t143, t144⟩, A30, H⟩ := H
      replace H : (if t144 = true then (if x140000_1 = 0 then (if t140.toList = ([98, 97, 115, 101] : List UInt8) then (if t141 ≥ 1 then (ledger_scan.j1 k1 a0 t143 (decide (t141 ≤ 4611686018427387904)) x140000_1 x140001_1 x140002_1 x140003_1 t140 t141 t142) else (ledger_scan.j1 k1 a0 t143 false x140000_1 x140001_1 x140002_1 x140003_1 t140 t141 t142)) else (ledger_scan.j1 k1 a0 t143 false x140000_1 x140001_1 x140002_1 x140003_1 t140 t141 t142)) else (ledger_scan.j1 k1 a0 t143 false x140000_1 x140001_1 x140002_1 x140003_1 t140 t141 t142)) else (some (x140000_1, x140001_1, x140002_1, x140003_1))) = some (r1, r2, r3, r4) := H
      have A3 := Aside0.mk A30
      clear A30
      by_cases c4 : t144 = true
      · subst c4
        have H1 : (if x140000_1 = 0 then (if t140.toList = ([98, 97, 115, 101] : List UInt8) then (if t141 ≥ 1 then (ledger_scan.j1 k1 a0 t143 (decide (t141 ≤ 4611686018427387904)) x140000_1 x140001_1 x140002_1 x140003_1 t140 t141 t142) else (ledger_scan.j1 k1 a0 t143 false x140000_1 x140001_1 x140002_1 x140003_1 t140 t141 t142)) else (ledger_scan.j1 k1 a0 t143 false x140000_1 x140001_1 x140002_1 x140003_1 t140 t141 t142)) else (ledger_scan.j1 k1 a0 t143 false x140000_1 x140001_1 x140002_1 x140003_1 t140 t141 t142)) = some (r1, r2, r3, r4) := by rw [if_pos rfl] at H; exact H
        clear H
        have H := H1
        clear H1
        have HC5 := Aside0.mk H
        clear H
        go_upto_region 4 with (first | ((with_reducible refine gate_callee (f := 83) rfl ?_); refine goesL_ (some 10) rfl rfl Tryz.func83 (by kernel_rfl) rfl #[.string x3_1] rfl (by (try simp only [List.map_toArray, List.map_cons, List.map_nil]); first | done | rfl | (simp only [List.length_drop, List.length_take]; rfl)) ?_; (with_reducible refine (ledger_read.calls k1 x3_1 t140 t141 t142 t143 true _ A3.out (gl_below HG.out (by repeat (first | (with_reducible first | exact HB.out | apply below_alloc | apply pw_below_drewN | apply below_drew1 | refine below_set ?_ GE139.out) | exact HB.out)))).mono ?_); rintro e w6 ⟨rfl, hb⟩; refine ⟨_, rfl, ?_⟩; have n0_ := Aside0.mk (Kd.R_below (by (with_reducible repeat (first | apply Kd.R_alloc | apply Kd.R_drewN | apply Kd.R_drew)); exact HO_140002.out) hb); have n1_ := Aside0.mk (blk_below (g := gb139) (o := .cells #[.int .i64 x140000_1, .string x140001_1, u140002, .int .i64 x140003_1] 105 (0, 0)) (by (with_reducible repeat (first | refine blk_drewN ?_ _ | refine blk_drew ?_ | refine blk_alloc ?_ _)); exact BK139.out) hb); have n2_ := Aside0.mk (below_step (by repeat (first | (with_reducible first | exact HB.out | apply below_alloc | apply pw_below_drewN | apply below_drew1 | refine below_set ?_ GE139.out) | exact HB.out)) hb); clear HO_140002; clear BK139; clear HB; have HO_140002 := n0_; have BK139 := n1_; have HB := n2_; clear n0_ n1_ n2_; (try clear hb); (try clear hb2); (try clear hk); (try clear hi)) | ((with_reducible refine gate_dst (N := 4) rfl ?_); (try (refine gate_guard (by rfl) ?_; dsimp only)); refine box_event ?hg (N := 4) ?hd (cs := #[.string (⟨#[]⟩ : ByteArray), .int .i64 0, .string (⟨#[]⟩ : ByteArray)]) (t := 135) ?hr ?_; (case hd => rfl); (case hg => rfl); (case hr => first | (go_simp; done) | (go_simp; rfl)); intro gb145 hg w7 hbox hb; have n0_ := Aside0.mk (Kd.R_below (by (with_reducible repeat (first | apply Kd.R_alloc | apply Kd.R_drewN | apply Kd.R_drew)); exact HO_140002.out) hb); have n1_ := Aside0.mk (blk_below (g := gb139) (o := .cells #[.int .i64 x140000_1, .string x140001_1, u140002, .int .i64 x140003_1] 105 (0, 0)) (by (with_reducible repeat (first | refine blk_drewN ?_ _ | refine blk_drew ?_ | refine blk_alloc ?_ _)); exact BK139.out) hb); have n2_ := Aside0.mk (below_step (by repeat (first | (with_reducible first | exact HB.out | apply below_alloc | apply pw_below_drewN | apply below_drew1 | refine below_set ?_ GE139.out) | exact HB.out)) hb); have n3_ := Aside0.mk (hbox); have n4_ := Aside0.mk ((by rw [hg]; exact (below_size (by repeat (first | (with_reducible first | exact HB.out | apply below_alloc | apply pw_below_drewN | apply below_drew1 | refine below_set ?_ GE139.out) | exact HB.out))) : w.heap.size ≤ gb145)); have n5_ := Aside0.mk ((by rw [hg]; exact (below_size (by repeat (first | (with_reducible first | exact HB.out | apply below_alloc | apply pw_below_drewN | apply below_drew1 | refine below_set ?_ GE139.out) | exact HB.out))) : w.heap.size ≤ gb145)); have n6_ := Aside0.mk ((by rw [hg]; exact Nat.ne_of_lt (blk_lt (g := gb139) (o := .cells #[.int .i64 x140000_1, .string x140001_1, u140002, .int .i64 x140003_1] 105 (0, 0)) (by (with_reducible repeat (first | refine blk_drewN ?_ _ | refine blk_drew ?_ | refine blk_alloc ?_ _)); exact BK139.out)) : gb139 ≠ gb145)); have n7_ := Aside0.mk ((by rw [hg]; exact Nat.ne_of_gt (blk_lt (g := gb139) (o := .cells #[.int .i64 x140000_1, .string x140001_1, u140002, .int .i64 x140003_1] 105 (0, 0)) (by (with_reducible repeat (first | refine blk_drewN ?_ _ | refine blk_drew ?_ | refine blk_alloc ?_ _)); exact BK139.out)) : gb145 ≠ gb139)); clear HO_140002; clear BK139; clear HB; have HO_140002 := n0_; have BK139 := n1_; have HB := n2_; have BK145 := n3_; have GW145 := n4_; have GE145 := n5_; have NB139_145 := n6_; have NB145_139 := n7_; clear n0_ n1_ n2_ n3_ n4_ n5_ n6_ n7_; clear hb hbox hg; have hnb8 := NB145_139.out; have hnc8 := NB139_145.out; have hcz9_0 : w7.cell? ⟨gb145, 0, none⟩ = some (.string (⟨#[]⟩ : ByteArray)) := (blk_cell BK145.out 0).trans rfl; have hcz9_1 : w7.cell? ⟨gb145, 1, none⟩ = some (.int .i64 0) := (blk_cell BK145.out 1).trans rfl; have hcz9_2 : w7.cell? ⟨gb145, 2, none⟩ = some (.string (⟨#[]⟩ : ByteArray)) := (blk_cell BK145.out 2).trans rfl; have hfz9_0 := blk_frozen BK145.out 0; have hfz9_1 := blk_frozen BK145.out 1; have hfz9_2 := blk_frozen BK145.out 2))
        (try simp only [Act.put, List.setIfInBounds_toArray, List.set_cons_zero, List.set_cons_succ])
        go_cut [17] (fun v17 wc => ∃ (kq : Nat) (x17_4 : Bool), v17 = .bool x17_4 ∧ Aside0 (ledger_scan.j1 kq a0 t143 x17_4 x140000_1 x140001_1 x140002_1 x140003_1 t140 t141 t142 = some (r1, r2, r3, r4)) ∧ Aside0 (kq ≤ k1) ∧ Aside0 (Kd.R Kd.string 9 wc w.heap.size (fun _ => True) u140002 x140002_1) ∧ Aside0 (wc.heap[gb139]? = some (.cells #[.int .i64 x140000_1, .string x140001_1, u140002, .int .i64 x140003_1] 105 (0, 0))) ∧ Aside0 (wc.heap[gb145]? = some (.cells #[.string t140, .int .i64 t141, .string t142] 135 (0, 0))) ∧ Aside0 (Below w.heap.size w wc))
        case first =>
          have H := HC5.out
          clear HC5
          by_cases c10 : x140000_1 = 0
          · rw [if_pos c10] at H
            have c10b0 : (x140000_1 == 0) = true := beq_iff_eq.mpr c10
            have c10b1 : (x140000_1 != 0) = false := bne_eq_false_iff_eq.mpr c10
            clear c10
            (first | rw [c10b0] | (simp only [i64_w, i32_w]; rw [c10b0]) | skip)
            by_cases c11 : t140.toList = ([98, 97, 115, 101] : List UInt8)
            · rw [if_pos c11] at H
              have c11b0 : (t140.toList == ([98, 97, 115, 101] : List UInt8)) = true := beq_iff_eq.mpr c11
              have c11b1 : (t140.toList != ([98, 97, 115, 101] : List UInt8)) = false := bne_eq_false_iff_eq.mpr c11
              clear c11
              by_cases c12 : t141 ≥ 1
              · rw [if_pos c12] at H
                have c12b0 : decide (1 ≤ t141) = true := decide_eq_true c12
                clear c12
                have H' := Aside0.mk H
                clear H
                have hnb13 := NB139_145.out
                have hnc13 := NB145_139.out
                have hcz14_0 : w7.cell? ⟨gb139, 0, none⟩ = some (.int .i64 x140000_1) := (blk_cell BK139.out 0).trans rfl
                have hcz14_1 : w7.cell? ⟨gb139, 1, none⟩ = some (.string x140001_1) := (blk_cell BK139.out 1).trans rfl
                have hcz14_2 : w7.cell? ⟨gb139, 2, none⟩ = some (u140002) := (blk_cell BK139.out 2).trans rfl
                have hcz14_3 : w7.cell? ⟨gb139, 3, none⟩ = some (.int .i64 x140003_1) := (blk_cell BK139.out 3).trans rfl
                have hfz14_0 := blk_frozen BK139.out 0
                have hfz14_1 := blk_frozen BK139.out 1
                have hfz14_2 := blk_frozen BK139.out 2
                have hfz14_3 := blk_frozen BK139.out 3
                have hcz15_0 : w7.cell? ⟨gb145, 0, none⟩ = some (.string (⟨#[]⟩ : ByteArray)) := (blk_cell BK145.out 0).trans rfl
                have hcz15_1 : w7.cell? ⟨gb145, 1, none⟩ = some (.int .i64 0) := (blk_cell BK145.out 1).trans rfl
                have hcz15_2 : w7.cell? ⟨gb145, 2, none⟩ = some (.string (⟨#[]⟩ : ByteArray)) := (blk_cell BK145.out 2).trans rfl
                have hfz15_0 := blk_frozen BK145.out 0
                have hfz15_1 := blk_frozen BK145.out 1
                have hfz15_2 := blk_frozen BK145.out 2
                go_wp2
                go_meet
                case rel => exact ⟨_, (decide (t141 ≤ 4611686018427387904)), (by first | rfl | (simp; done) | (simp [*]; done)), H', ⟨by have := HK1.out; first | omega | exact Nat.le_refl _⟩, ⟨by (with_reducible repeat (first | apply Kd.R_alloc | apply Kd.R_drewN | apply Kd.R_drew)); exact Kd.R_mono (Kd.R_far (p := ⟨gb145, 2, none⟩) (Kd.R_far (p := ⟨gb145, 1, none⟩) (Kd.R_far (p := ⟨gb145, 0, none⟩) (Kd.R_types HO_140002.out BK145.out (by decide)) (fun _ hk => hk.2) (.string t140)) (fun _ hk => hk.2) (.int .i64 t141)) (fun _ hk => hk.2) (.string t142)) (fun _ hk => trivial)⟩, ⟨by (with_reducible repeat (first | refine blk_drewN ?_ _ | refine blk_drew ?_ | refine blk_alloc ?_ _)); refine blk_far ?_ NB139_145.out _; (with_reducible repeat (first | refine blk_drewN ?_ _ | refine blk_drew ?_ | refine blk_alloc ?_ _)); refine blk_far ?_ NB139_145.out _; (with_reducible repeat (first | refine blk_drewN ?_ _ | refine blk_drew ?_ | refine blk_alloc ?_ _)); refine blk_far ?_ NB139_145.out _; (with_reducible repeat (first | refine blk_drewN ?_ _ | refine blk_drew ?_ | refine blk_alloc ?_ _)); exact BK139.out⟩, ⟨by (with_reducible repeat (first | refine blk_drewN ?_ _ | refine blk_drew ?_ | refine blk_alloc ?_ _)); refine blk_put (cs := #[.string t140, .int .i64 t141, .string (⟨#[]⟩ : ByteArray)]) ?_ 2 _ rfl; (with_reducible repeat (first | refine blk_drewN ?_ _ | refine blk_drew ?_ | refine blk_alloc ?_ _)); refine blk_put (cs := #[.string t140, .int .i64 0, .string (⟨#[]⟩ : ByteArray)]) ?_ 1 _ rfl; (with_reducible repeat (first | refine blk_drewN ?_ _ | refine blk_drew ?_ | refine blk_alloc ?_ _)); refine blk_put (cs := #[.string (⟨#[]⟩ : ByteArray), .int .i64 0, .string (⟨#[]⟩ : ByteArray)]) ?_ 0 _ rfl; (with_reducible repeat (first | refine blk_drewN ?_ _ | refine blk_drew ?_ | refine blk_alloc ?_ _)); exact BK145.out⟩, ⟨by repeat (first | (with_reducible first | exact HB.out | apply below_alloc | apply pw_below_drewN | apply below_drew1 | refine below_set ?_ GE139.out | refine below_set ?_ GE145.out) | exact HB.out)⟩⟩
              · rw [if_neg c12] at H
                have c12b0 : decide (1 ≤ t141) = false := decide_eq_false c12
                clear c12
                have H' := Aside0.mk H
                clear H
                have hnb16 := NB139_145.out
                have hnc16 := NB145_139.out
                have hcz17_0 : w7.cell? ⟨gb139, 0, none⟩ = some (.int .i64 x140000_1) := (blk_cell BK139.out 0).trans rfl
                have hcz17_1 : w7.cell? ⟨gb139, 1, none⟩ = some (.string x140001_1) := (blk_cell BK139.out 1).trans rfl
                have hcz17_2 : w7.cell? ⟨gb139, 2, none⟩ = some (u140002) := (blk_cell BK139.out 2).trans rfl
                have hcz17_3 : w7.cell? ⟨gb139, 3, none⟩ = some (.int .i64 x140003_1) := (blk_cell BK139.out 3).trans rfl
                have hfz17_0 := blk_frozen BK139.out 0
                have hfz17_1 := blk_frozen BK139.out 1
                have hfz17_2 := blk_frozen BK139.out 2
                have hfz17_3 := blk_frozen BK139.out 3
                have hcz18_0 : w7.cell? ⟨gb145, 0, none⟩ = some (.string (⟨#[]⟩ : ByteArray)) := (blk_cell BK145.out 0).trans rfl
                have hcz18_1 : w7.cell? ⟨gb145, 1, none⟩ = some (.int .i64 0) := (blk_cell BK145.out 1).trans rfl
                have hcz18_2 : w7.cell? ⟨gb145, 2, none⟩ = some (.string (⟨#[]⟩ : ByteArray)) := (blk_cell BK145.out 2).trans rfl
                have hfz18_0 := blk_frozen BK145.out 0
                have hfz18_1 := blk_frozen BK145.out 1
                have hfz18_2 := blk_frozen BK145.out 2
                go_wp2
                go_meet
                case rel => exact ⟨_, (false), (by first | rfl | (simp; done) | (simp [*]; done)), H', ⟨by have := HK1.out; first | omega | exact Nat.le_refl _⟩, ⟨by (with_reducible repeat (first | apply Kd.R_alloc | apply Kd.R_drewN | apply Kd.R_drew)); exact Kd.R_mono (Kd.R_far (p := ⟨gb145, 2, none⟩) (Kd.R_far (p := ⟨gb145, 1, none⟩) (Kd.R_far (p := ⟨gb145, 0, none⟩) (Kd.R_types HO_140002.out BK145.out (by decide)) (fun _ hk => hk.2) (.string t140)) (fun _ hk => hk.2) (.int .i64 t141)) (fun _ hk => hk.2) (.string t142)) (fun _ hk => trivial)⟩, ⟨by (with_reducible repeat (first | refine blk_drewN ?_ _ | refine blk_drew ?_ | refine blk_alloc ?_ _)); refine blk_far ?_ NB139_145.out _; (with_reducible repeat (first | refine blk_drewN ?_ _ | refine blk_drew ?_ | refine blk_alloc ?_ _)); refine blk_far ?_ NB139_145.out _; (with_reducible repeat (first | refine blk_drewN ?_ _ | refine blk_drew ?_ | refine blk_alloc ?_ _)); refine blk_far ?_ NB139_145.out _; (with_reducible repeat (first | refine blk_drewN ?_ _ | refine blk_drew ?_ | refine blk_alloc ?_ _)); exact BK139.out⟩, ⟨by (with_reducible repeat (first | refine blk_drewN ?_ _ | refine blk_drew ?_ | refine blk_alloc ?_ _)); refine blk_put (cs := #[.string t140, .int .i64 t141, .string (⟨#[]⟩ : ByteArray)]) ?_ 2 _ rfl; (with_reducible repeat (first | refine blk_drewN ?_ _ | refine blk_drew ?_ | refine blk_alloc ?_ _)); refine blk_put (cs := #[.string t140, .int .i64 0, .string (⟨#[]⟩ : ByteArray)]) ?_ 1 _ rfl; (with_reducible repeat (first | refine blk_drewN ?_ _ | refine blk_drew ?_ | refine blk_alloc ?_ _)); refine blk_put (cs := #[.string (⟨#[]⟩ : ByteArray), .int .i64 0, .string (⟨#[]⟩ : ByteArray)]) ?_ 0 _ rfl; (with_reducible repeat (first | refine blk_drewN ?_ _ | refine blk_drew ?_ | refine blk_alloc ?_ _)); exact BK145.out⟩, ⟨by repeat (first | (with_reducible first | exact HB.out | apply below_alloc | apply pw_below_drewN | apply below_drew1 | refine below_set ?_ GE139.out | refine below_set ?_ GE145.out) | exact HB.out)⟩⟩
            · rw [if_neg c11] at H
              have c11b0 : (t140.toList == ([98, 97, 115, 101] : List UInt8)) = false := beq_eq_false_iff_ne.mpr c11
              have c11b1 : (t140.toList != ([98, 97, 115, 101] : List UInt8)) = true := bne_iff_ne.mpr c11
              have H' := Aside0.mk H
              clear H
              have hnb19 := NB139_145.out
              have hnc19 := NB145_139.out
              have hcz20_0 : w7.cell? ⟨gb139, 0, none⟩ = some (.int .i64 x140000_1) := (blk_cell BK139.out 0).trans rfl
              have hcz20_1 : w7.cell? ⟨gb139, 1, none⟩ = some (.string x140001_1) := (blk_cell BK139.out 1).trans rfl
              have hcz20_2 : w7.cell? ⟨gb139, 2, none⟩ = some (u140002) := (blk_cell BK139.out 2).trans rfl
              have hcz20_3 : w7.cell? ⟨gb139, 3, none⟩ = some (.int .i64 x140003_1) := (blk_cell BK139.out 3).trans rfl
              have hfz20_0 := blk_frozen BK139.out 0
              have hfz20_1 := blk_frozen BK139.out 1
              have hfz20_2 := blk_frozen BK139.out 2
              have hfz20_3 := blk_frozen BK139.out 3
              have hcz21_0 : w7.cell? ⟨gb145, 0, none⟩ = some (.string (⟨#[]⟩ : ByteArray)) := (blk_cell BK145.out 0).trans rfl
              have hcz21_1 : w7.cell? ⟨gb145, 1, none⟩ = some (.int .i64 0) := (blk_cell BK145.out 1).trans rfl
              have hcz21_2 : w7.cell? ⟨gb145, 2, none⟩ = some (.string (⟨#[]⟩ : ByteArray)) := (blk_cell BK145.out 2).trans rfl
              have hfz21_0 := blk_frozen BK145.out 0
              have hfz21_1 := blk_frozen BK145.out 1
              have hfz21_2 := blk_frozen BK145.out 2
              go_wp2
              go_meet
              case rel => exact ⟨_, (false), (by first | rfl | (simp; done) | (simp [*]; done)), H', ⟨by have := HK1.out; first | omega | exact Nat.le_refl _⟩, ⟨by (with_reducible repeat (first | apply Kd.R_alloc | apply Kd.R_drewN | apply Kd.R_drew)); exact Kd.R_mono (Kd.R_far (p := ⟨gb145, 2, none⟩) (Kd.R_far (p := ⟨gb145, 1, none⟩) (Kd.R_far (p := ⟨gb145, 0, none⟩) (Kd.R_types HO_140002.out BK145.out (by decide)) (fun _ hk => hk.2) (.string t140)) (fun _ hk => hk.2) (.int .i64 t141)) (fun _ hk => hk.2) (.string t142)) (fun _ hk => trivial)⟩, ⟨by (with_reducible repeat (first | refine blk_drewN ?_ _ | refine blk_drew ?_ | refine blk_alloc ?_ _)); refine blk_far ?_ NB139_145.out _; (with_reducible repeat (first | refine blk_drewN ?_ _ | refine blk_drew ?_ | refine blk_alloc ?_ _)); refine blk_far ?_ NB139_145.out _; (with_reducible repeat (first | refine blk_drewN ?_ _ | refine blk_drew ?_ | refine blk_alloc ?_ _)); refine blk_far ?_ NB139_145.out _; (with_reducible repeat (first | refine blk_drewN ?_ _ | refine blk_drew ?_ | refine blk_alloc ?_ _)); exact BK139.out⟩, ⟨by (with_reducible repeat (first | refine blk_drewN ?_ _ | refine blk_drew ?_ | refine blk_alloc ?_ _)); refine blk_put (cs := #[.string t140, .int .i64 t141, .string (⟨#[]⟩ : ByteArray)]) ?_ 2 _ rfl; (with_reducible repeat (first | refine blk_drewN ?_ _ | refine blk_drew ?_ | refine blk_alloc ?_ _)); refine blk_put (cs := #[.string t140, .int .i64 0, .string (⟨#[]⟩ : ByteArray)]) ?_ 1 _ rfl; (with_reducible repeat (first | refine blk_drewN ?_ _ | refine blk_drew ?_ | refine blk_alloc ?_ _)); refine blk_put (cs := #[.string (⟨#[]⟩ : ByteArray), .int .i64 0, .string (⟨#[]⟩ : ByteArray)]) ?_ 0 _ rfl; (with_reducible repeat (first | refine blk_drewN ?_ _ | refine blk_drew ?_ | refine blk_alloc ?_ _)); exact BK145.out⟩, ⟨by repeat (first | (with_reducible first | exact HB.out | apply below_alloc | apply pw_below_drewN | apply below_drew1 | refine below_set ?_ GE139.out | refine below_set ?_ GE145.out) | exact HB.out)⟩⟩
          · rw [if_neg c10] at H
            have c10b0 : (x140000_1 == 0) = false := beq_eq_false_iff_ne.mpr c10
            have c10b1 : (x140000_1 != 0) = true := bne_iff_ne.mpr c10
            (first | rw [c10b0] | (simp only [i64_w, i32_w]; rw [c10b0]) | skip)
            have H' := Aside0.mk H
            clear H
            have hnb22 := NB139_145.out
            have hnc22 := NB145_139.out
            have hcz23_0 : w7.cell? ⟨gb139, 0, none⟩ = some (.int .i64 x140000_1) := (blk_cell BK139.out 0).trans rfl
            have hcz23_1 : w7.cell? ⟨gb139, 1, none⟩ = some (.string x140001_1) := (blk_cell BK139.out 1).trans rfl
            have hcz23_2 : w7.cell? ⟨gb139, 2, none⟩ = some (u140002) := (blk_cell BK139.out 2).trans rfl
            have hcz23_3 : w7.cell? ⟨gb139, 3, none⟩ = some (.int .i64 x140003_1) := (blk_cell BK139.out 3).trans rfl
            have hfz23_0 := blk_frozen BK139.out 0
            have hfz23_1 := blk_frozen BK139.out 1
            have hfz23_2 := blk_frozen BK139.out 2
            have hfz23_3 := blk_frozen BK139.out 3
            go_wp2
            go_meet
            case rel => exact ⟨_, (false), (by first | rfl | (simp; done) | (simp [*]; done)), H', ⟨by have := HK1.out; first | omega | exact Nat.le_refl _⟩, ⟨by (with_reducible repeat (first | apply Kd.R_alloc | apply Kd.R_drewN | apply Kd.R_drew)); exact Kd.R_mono (Kd.R_far (p := ⟨gb145, 2, none⟩) (Kd.R_far (p := ⟨gb145, 1, none⟩) (Kd.R_far (p := ⟨gb145, 0, none⟩) (Kd.R_types HO_140002.out BK145.out (by decide)) (fun _ hk => hk.2) (.string t140)) (fun _ hk => hk.2) (.int .i64 t141)) (fun _ hk => hk.2) (.string t142)) (fun _ hk => trivial)⟩, ⟨by (with_reducible repeat (first | refine blk_drewN ?_ _ | refine blk_drew ?_ | refine blk_alloc ?_ _)); refine blk_far ?_ NB139_145.out _; (with_reducible repeat (first | refine blk_drewN ?_ _ | refine blk_drew ?_ | refine blk_alloc ?_ _)); refine blk_far ?_ NB139_145.out _; (with_reducible repeat (first | refine blk_drewN ?_ _ | refine blk_drew ?_ | refine blk_alloc ?_ _)); refine blk_far ?_ NB139_145.out _; (with_reducible repeat (first | refine blk_drewN ?_ _ | refine blk_drew ?_ | refine blk_alloc ?_ _)); exact BK139.out⟩, ⟨by (with_reducible repeat (first | refine blk_drewN ?_ _ | refine blk_drew ?_ | refine blk_alloc ?_ _)); refine blk_put (cs := #[.string t140, .int .i64 t141, .string (⟨#[]⟩ : ByteArray)]) ?_ 2 _ rfl; (with_reducible repeat (first | refine blk_drewN ?_ _ | refine blk_drew ?_ | refine blk_alloc ?_ _)); refine blk_put (cs := #[.string t140, .int .i64 0, .string (⟨#[]⟩ : ByteArray)]) ?_ 1 _ rfl; (with_reducible repeat (first | refine blk_drewN ?_ _ | refine blk_drew ?_ | refine blk_alloc ?_ _)); refine blk_put (cs := #[.string (⟨#[]⟩ : ByteArray), .int .i64 0, .string (⟨#[]⟩ : ByteArray)]) ?_ 0 _ rfl; (with_reducible repeat (first | refine blk_drewN ?_ _ | refine blk_drew ?_ | refine blk_alloc ?_ _)); exact BK145.out⟩, ⟨by repeat (first | (with_reducible first | exact HB.out | apply below_alloc | apply pw_below_drewN | apply below_drew1 | refine below_set ?_ GE139.out | refine below_set ?_ GE145.out) | exact HB.out)⟩⟩
        case rest =>
          clear HC5
          try clear c1
          try clear c2
          try clear p2
          try clear p3
          try clear c4
          try clear c5
          try clear c8
          try clear c10
          try clear c10b0
          try clear c10b1
          try clear c11
          try clear c11b0
          try clear c11b1
          try clear c12
          try clear c12b0
          try clear c13
          try clear c16
          try clear c19
          try clear c22
          try clear hcz14_0
          try clear hcz14_1
          try clear hcz14_2
          try clear hcz14_3
          try clear hcz15_0
          try clear hcz15_1
          try clear hcz15_2
          try clear hcz17_0
          try clear hcz17_1
          try clear hcz17_2
          try clear hcz17_3
          try clear hcz18_0
          try clear hcz18_1
          try clear hcz18_2
          try clear hcz20_0
          try clear hcz20_1
          try clear hcz20_2
          try clear hcz20_3
          try clear hcz21_0
          try clear hcz21_1
          try clear hcz21_2
          try clear hcz23_0
          try clear hcz23_1
          try clear hcz23_2
          try clear hcz23_3
          try clear hcz9_0
          try clear hcz9_1
          try clear hcz9_2
          try clear hfz14_0
          try clear hfz14_1
          try clear hfz14_2
          try clear hfz14_3
          try clear hfz15_0
          try clear hfz15_1
          try clear hfz15_2
          try clear hfz17_0
          try clear hfz17_1
          try clear hfz17_2
          try clear hfz17_3
          try clear hfz18_0
          try clear hfz18_1
          try clear hfz18_2
          try clear hfz20_0
          try clear hfz20_1
          try clear hfz20_2
          try clear hfz20_3
          try clear hfz21_0
          try clear hfz21_1
          try clear hfz21_2
          try clear hfz23_0
          try clear hfz23_1
          try clear hfz23_2
          try clear hfz23_3
          try clear hfz9_0
          try clear hfz9_1
          try clear hfz9_2
          try clear p2
          obtain ⟨kq, x17_4, rfl, HA, HJ4, HO_140002, BK139, BK145, HB⟩ := hcut
          cases kq with
          | zero => exact absurd HA.out (by simp [ledger_scan.j1])
          | succ kj4 =>
            have H := HA.out
            clear HA
            simp only [ledger_scan.j1] at H
            by_cases c24 : x17_4 = true
            · subst c24
              have H1 : (ledger_scan.l0 kj4 a0 t143 t141 t142 x140002_1 (wrap64 ((a0.size : Int) - (t143.size : Int)))) = some (r1, r2, r3, r4) := by rw [if_pos rfl] at H; exact H
              clear H
              have H := H1
              clear H1
              have H' := Aside0.mk H
              clear H
              try go_wp2
              have n0_ := Aside0.mk (Kd.R_drew HO_140002.out)
              have n1_ := Aside0.mk (blk_drew BK139.out)
              have n2_ := Aside0.mk (blk_drew BK145.out)
              have n3_ := Aside0.mk (below_drew1 HB.out)
              clear HO_140002
              clear BK139
              clear BK145
              clear HB
              have HO_140002 := n0_
              have BK139 := n1_
              have BK145 := n2_
              have HB := n3_
              clear n0_ n1_ n2_ n3_
              refine start_ (n := 8) (S := fun w' => w'.cell? ⟨gb145, 0, none⟩ = some (.string t140) ∧ w'.cell? ⟨gb145, 1, none⟩ = some (.int .i64 t141) ∧ w'.cell? ⟨gb145, 2, none⟩ = some (.string t142)) (ds := []) #[false, false, false, false, false, false, false, false] (by kernel_rfl) rfl rfl ⟨(blk_cell BK145.out 0).trans rfl, (blk_cell BK145.out 1).trans rfl, (blk_cell BK145.out 2).trans rfl⟩ (fun hHeld => ?_); refine with_tabW ledger_scan.tab5 ledger_scan.bits5 (fun HT_ HW_ => ?_)
              generalize wc.drew = w25 at HO_140002 BK139 BK145 HB hHeld ⊢
              refine pure_ (i := 0) (N := some 36) (v := ?_) (a' := ?_) #[true, false, false, false, false, false, false, false] rfl rfl (any_of HT_.out (by kernel_rfl)) (fun _ _ _ h => h) (Or.inl ⟨by rfl, ?_⟩) ?_ ?_
              rotate_left
              · intro w'
                go_simp
                with_reducible rfl
              rotate_left
              · simp only [Act.put, List.setIfInBounds_toArray, List.set_cons_zero, List.set_cons_succ, i64_w, i32_w]
                rfl
              refine pure_ (i := 2) (N := some 38) (v := ?_) (a' := ?_) #[true, false, true, false, false, false, false, false] rfl rfl (any_of HT_.out (by kernel_rfl)) (fun _ _ _ h => h) (Or.inl ⟨by rfl, ?_⟩) ?_ ?_
              rotate_left
              · intro w'
                go_simp
                with_reducible rfl
              rotate_left
              · simp only [Act.put, List.setIfInBounds_toArray, List.set_cons_zero, List.set_cons_succ, i64_w, i32_w]
                rfl
              refine take_ (i := 1) (N := some 37) (v := ?_) (a' := ?_) #[true, true, true, false, false, false, false, false] rfl rfl (take_ofW HT_.out HW_.out (by kernel_rfl)) (fun _ _ _ h => h) (Or.inl ⟨by rfl, ?_⟩) hHeld ?_ ?_
              rotate_left
              · rintro w' ⟨s0, s1, s2⟩
                go_simp
                with_reducible rfl
              rotate_left
              · simp only [Act.put, List.setIfInBounds_toArray, List.set_cons_zero, List.set_cons_succ, i64_w, i32_w]
                rfl
              refine pure_ (i := 4) (N := some 40) (v := ?_) (a' := ?_) #[true, true, true, false, true, false, false, false] rfl rfl (any_of HT_.out (by kernel_rfl)) (fun _ _ _ h => h) (Or.inl ⟨by rfl, ?_⟩) ?_ ?_
              rotate_left
              · intro w'
                go_simp
                with_reducible rfl
              rotate_left
              · simp only [Act.put, List.setIfInBounds_toArray, List.set_cons_zero, List.set_cons_succ, i64_w, i32_w]
                rfl
              refine take_ (i := 3) (N := some 39) (v := ?_) (a' := ?_) #[true, true, true, true, true, false, false, false] rfl rfl (take_ofW HT_.out HW_.out (by kernel_rfl)) (fun _ _ _ h => h) (Or.inl ⟨by rfl, ?_⟩) hHeld ?_ ?_
              rotate_left
              · rintro w' ⟨s0, s1, s2⟩
                go_simp
                with_reducible rfl
              rotate_left
              · simp only [Act.put, List.setIfInBounds_toArray, List.set_cons_zero, List.set_cons_succ, i64_w, i32_w]
                rfl
              refine one_ (i := 5) (N := none) #[true, true, true, true, true, true, false, false] rfl rfl (one_of HT_.out (by kernel_rfl)) (by decide) (fun K hK => ?_)
              have hs26 : w25.cell? ⟨gb139, 0, none⟩ = some (.int .i64 x140000_1) := (blk_cell BK139.out 0).trans rfl
              have hfs26 := blk_frozen BK139.out 0
              have hns26_1 := NB145_139.out
              have hms26_1 := NB139_145.out
              refine skip_ (w1 := ?_) (by rfl) rfl ?_ ?_
              rotate_left
              · go_simp
                rfl
              refine hK.out _ _ ⟨((cell_far (p := ⟨gb139, _, none⟩) NB145_139.out _).trans (hHeld.1)), ((cell_far (p := ⟨gb139, _, none⟩) NB145_139.out _).trans (hHeld.2.1)), ((cell_far (p := ⟨gb139, _, none⟩) NB145_139.out _).trans (hHeld.2.2))⟩ (fun hHeld => ?_)
              clear hK K
              refine pure_ (i := 6) (N := some 41) (v := ?_) (a' := ?_) #[true, true, true, true, true, true, true, false] rfl rfl (any_of HT_.out (by kernel_rfl)) (fun _ _ _ h => h) (Or.inl ⟨by rfl, ?_⟩) ?_ ?_
              rotate_left
              · intro w'
                go_simp
                with_reducible rfl
              rotate_left
              · simp only [Act.put, List.setIfInBounds_toArray, List.set_cons_zero, List.set_cons_succ, i64_w, i32_w]
                rfl
              refine one_ (i := 7) (N := none) #[true, true, true, true, true, true, true, true] rfl rfl (one_of HT_.out (by kernel_rfl)) (by decide) (fun K hK => ?_)
              have hs27 : w25.cell? ⟨gb139, 1, none⟩ = some (.string x140001_1) := (blk_cell BK139.out 1).trans rfl
              have hfs27 := blk_frozen BK139.out 1
              have hns27_1 := NB145_139.out
              have hms27_1 := NB139_145.out
              refine skip_ (w1 := ?_) (by rfl) rfl ?_ ?_
              rotate_left
              · go_simp
                rfl
              refine hK.out _ _ ⟨((cell_far (p := ⟨gb139, _, none⟩) NB145_139.out _).trans (hHeld.1)), ((cell_far (p := ⟨gb139, _, none⟩) NB145_139.out _).trans (hHeld.2.1)), ((cell_far (p := ⟨gb139, _, none⟩) NB145_139.out _).trans (hHeld.2.2))⟩ (fun hHeld => ?_)
              clear hK K
              refine done_ (done_of HT_.out (by kernel_rfl)) ?_
              have hnb28 := NB139_145.out
              have hnc28 := NB145_139.out
              have hcz29_0 : w25.cell? ⟨gb139, 0, none⟩ = some (.int .i64 x140000_1) := (blk_cell BK139.out 0).trans rfl
              have hcz29_1 : w25.cell? ⟨gb139, 1, none⟩ = some (.string x140001_1) := (blk_cell BK139.out 1).trans rfl
              have hcz29_2 : w25.cell? ⟨gb139, 2, none⟩ = some (u140002) := (blk_cell BK139.out 2).trans rfl
              have hcz29_3 : w25.cell? ⟨gb139, 3, none⟩ = some (.int .i64 x140003_1) := (blk_cell BK139.out 3).trans rfl
              have hfz29_0 := blk_frozen BK139.out 0
              have hfz29_1 := blk_frozen BK139.out 1
              have hfz29_2 := blk_frozen BK139.out 2
              have hfz29_3 := blk_frozen BK139.out 3
              try go_wp2
              go_roundg kj4
              case measure => have := HK1.out; have := HJ4.out; omega
              case rel => exact ⟨(t143), (t141), (t142), (x140002_1), (wrap64 ((a0.size : Int) - (t143.size : Int))), (u140002), (by first | rfl | (simp; done) | (simp [*]; done)), H', ⟨by have := HK1.out; have := HJ4.out; omega⟩, ⟨by (with_reducible repeat (first | apply Kd.R_alloc | apply Kd.R_drewN | apply Kd.R_drew)); exact Kd.R_mono (Kd.R_far (p := ⟨gb139, 3, none⟩) (Kd.R_far (p := ⟨gb139, 1, none⟩) (Kd.R_far (p := ⟨gb139, 0, none⟩) (Kd.R_types HO_140002.out BK139.out (by decide)) (fun _ hk => hk.2) (.int .i64 t141)) (fun _ hk => hk.2) (.string t142)) (fun _ hk => hk.2) (.int .i64 (wrap64 ((a0.size : Int) - (t143.size : Int))))) (fun _ hk => trivial)⟩, ⟨by (with_reducible repeat (first | refine blk_drewN ?_ _ | refine blk_drew ?_ | refine blk_alloc ?_ _)); refine blk_put (cs := #[.int .i64 t141, .string t142, u140002, .int .i64 x140003_1]) ?_ 3 _ rfl; (with_reducible repeat (first | refine blk_drewN ?_ _ | refine blk_drew ?_ | refine blk_alloc ?_ _)); refine blk_put (cs := #[.int .i64 t141, .string x140001_1, u140002, .int .i64 x140003_1]) ?_ 1 _ rfl; (with_reducible repeat (first | refine blk_drewN ?_ _ | refine blk_drew ?_ | refine blk_alloc ?_ _)); refine blk_put (cs := #[.int .i64 x140000_1, .string x140001_1, u140002, .int .i64 x140003_1]) ?_ 0 _ rfl; (with_reducible repeat (first | refine blk_drewN ?_ _ | refine blk_drew ?_ | refine blk_alloc ?_ _)); exact BK139.out⟩, ⟨by repeat (first | (with_reducible first | exact HB.out | apply below_alloc | apply pw_below_drewN | apply below_drew1 | refine below_set ?_ GE139.out | refine below_set ?_ GE145.out) | exact HB.out)⟩⟩
            · replace c24 := Bool.eq_false_iff.mpr c24
              subst c24
              have H1 : (if x140000_1 > 0 then (if t140.toList = ([114, 101, 99] : List UInt8) then (if t141 = (wrap64 ((x140002_1.length : Int) + 1)) then (if x140002_1.length < 8796093022208 then (ledger_scan.l0 kj4 a0 t143 x140000_1 x140001_1 (x140002_1 ++ [t142]) (wrap64 ((a0.size : Int) - (t143.size : Int)))) else (none)) else (some (x140000_1, x140001_1, x140002_1, x140003_1))) else (some (x140000_1, x140001_1, x140002_1, x140003_1))) else (some (x140000_1, x140001_1, x140002_1, x140003_1))) = some (r1, r2, r3, r4) := by rw [if_neg (show ¬ (false = true) by decide)] at H; exact H
              clear H
              have H := H1
              clear H1
              by_cases c30 : x140000_1 > 0
              · rw [if_pos c30] at H
                have c30b0 : decide (0 < x140000_1) = true := decide_eq_true c30
                clear c30
                by_cases c31 : t140.toList = ([114, 101, 99] : List UInt8)
                · rw [if_pos c31] at H
                  have c31b0 : (t140.toList == ([114, 101, 99] : List UInt8)) = true := beq_iff_eq.mpr c31
                  have c31b1 : (t140.toList != ([114, 101, 99] : List UInt8)) = false := bne_eq_false_iff_eq.mpr c31
                  clear c31
                  by_cases c32 : t141 = (wrap64 ((x140002_1.length : Int) + 1))
                  · rw [if_pos c32] at H
                    have c32b0 : (t141 == (wrap64 ((x140002_1.length : Int) + 1))) = true := beq_iff_eq.mpr c32
                    have c32b1 : (t141 != (wrap64 ((x140002_1.length : Int) + 1))) = false := bne_eq_false_iff_eq.mpr c32
                    clear c32
                    by_cases c33 : x140002_1.length < 8796093022208
                    · rw [if_pos c33] at H
                      have LMc33 := Aside0.mk c33
                      clear c33
                      obtain ⟨y146, hy146⟩ : ∃ y_ : List ByteArray, y_ = (x140002_1 ++ [t142]) := ⟨_, rfl⟩
                      replace H : (ledger_scan.l0 kj4 a0 t143 x140000_1 x140001_1 y146 (wrap64 ((a0.size : Int) - (t143.size : Int)))) = some (r1, r2, r3, r4) := by first | (rw [hy146]; with_reducible exact H) | (have H2_ := (Option.bind_some _ _).symm.trans H; rw [hy146]; with_reducible exact H2_) | (have H2_ := (Option.bind_some _ _).symm.trans H; with_reducible exact H2_) | with_reducible exact H | (rw [hy146]; exact H) | exact H
                      have Ny146 := Aside0.mk hy146
                      clear hy146
                      have H' := Aside0.mk H
                      clear H
                      have hnb34 := NB139_145.out
                      have hnc34 := NB145_139.out
                      have hcz35_0 : wc.cell? ⟨gb139, 0, none⟩ = some (.int .i64 x140000_1) := (blk_cell BK139.out 0).trans rfl
                      have hcz35_1 : wc.cell? ⟨gb139, 1, none⟩ = some (.string x140001_1) := (blk_cell BK139.out 1).trans rfl
                      have hcz35_2 : wc.cell? ⟨gb139, 2, none⟩ = some (u140002) := (blk_cell BK139.out 2).trans rfl
                      have hcz35_3 : wc.cell? ⟨gb139, 3, none⟩ = some (.int .i64 x140003_1) := (blk_cell BK139.out 3).trans rfl
                      have hfz35_0 := blk_frozen BK139.out 0
                      have hfz35_1 := blk_frozen BK139.out 1
                      have hfz35_2 := blk_frozen BK139.out 2
                      have hfz35_3 := blk_frozen BK139.out 3
                      have hcz36_0 : wc.cell? ⟨gb145, 0, none⟩ = some (.string t140) := (blk_cell BK145.out 0).trans rfl
                      have hcz36_1 : wc.cell? ⟨gb145, 1, none⟩ = some (.int .i64 t141) := (blk_cell BK145.out 1).trans rfl
                      have hcz36_2 : wc.cell? ⟨gb145, 2, none⟩ = some (.string t142) := (blk_cell BK145.out 2).trans rfl
                      have hfz36_0 := blk_frozen BK145.out 0
                      have hfz36_1 := blk_frozen BK145.out 1
                      have hfz36_2 := blk_frozen BK145.out 2
                      obtain ⟨Ao37, co37, eo37⟩ := Kd.R_slice HO_140002.out
                      subst eo37
                      go_wp2_with (first | ((with_reducible refine gate_builtin (b := .append) (xs := #[.tmp 61, .tmp 64]) rfl ?_); (try (refine gate_guard (by rfl) ?_; dsimp only)); at_builtin; refine Kd.R_append Kd.string (w0 := w) w.heap.size rfl (.tmp 61) (.tmp 64) 60 9 (.string ⟨#[]⟩) 16 rfl Tryz.underlying60 info9 rfl (by decide) (by omega) (.slice Ao37 x140002_1.length co37) x140002_1 t142 [.string t142] (fun _ => True) (fun _ => False) rfl rfl ?aP (fun _ hk => hk.elim) ?aF ?aO ?aB ?aS ?aL ?_; (case aP => exact rfl); (case aB => exact (by repeat (first | (with_reducible first | exact HB.out | apply below_alloc | apply pw_below_drewN | apply below_drew1 | refine below_set ?_ GE139.out | refine below_set ?_ GE145.out) | exact HB.out))); (case aF => exact (fun _ _ => trivial)); (case aO => exact (by (with_reducible repeat (first | apply Kd.R_alloc | apply Kd.R_drewN | apply Kd.R_drew)); exact HO_140002.out)); (case aS => exact (below_size (by repeat (first | (with_reducible first | exact HB.out | apply below_alloc | apply pw_below_drewN | apply below_drew1 | refine below_set ?_ GE139.out | refine below_set ?_ GE145.out) | exact HB.out)))); (case aL => have := LMc33.out; omega); intro v147 w38 ho hb hg hat; rw [← Ny146.out] at ho; have n0_ := Aside0.mk (blk_grown (g := gb139) (o := .cells #[.int .i64 x140000_1, .string x140001_1, .slice Ao37 x140002_1.length co37, .int .i64 x140003_1] 105 (0, 0)) (by (with_reducible repeat (first | refine blk_drewN ?_ _ | refine blk_drew ?_ | refine blk_alloc ?_ _)); exact BK139.out) hg (Kd.R_ne HO_140002.out BK139.out (by decide))); have n1_ := Aside0.mk (blk_grown (g := gb145) (o := .cells #[.string t140, .int .i64 t141, .string t142] 135 (0, 0)) (by (with_reducible repeat (first | refine blk_drewN ?_ _ | refine blk_drew ?_ | refine blk_alloc ?_ _)); exact BK145.out) hg (Kd.R_ne HO_140002.out BK145.out (by decide))); have n2_ := Aside0.mk (hb); have n3_ := Aside0.mk (ho); clear BK139; clear BK145; clear HB; clear HO_140002; have BK139 := n0_; have BK145 := n1_; have HB := n2_; have HO148 := n3_; clear n0_ n1_ n2_ n3_; clear ho hb hg hat; obtain ⟨Ao39, co39, eo39⟩ := Kd.R_slice HO148.out; subst eo39; have hcz40_0 : w38.cell? ⟨gb139, 0, none⟩ = some (.int .i64 x140000_1) := (blk_cell BK139.out 0).trans rfl; have hcz40_1 : w38.cell? ⟨gb139, 1, none⟩ = some (.string x140001_1) := (blk_cell BK139.out 1).trans rfl; have hcz40_2 : w38.cell? ⟨gb139, 2, none⟩ = some (.slice Ao37 x140002_1.length co37) := (blk_cell BK139.out 2).trans rfl; have hcz40_3 : w38.cell? ⟨gb139, 3, none⟩ = some (.int .i64 x140003_1) := (blk_cell BK139.out 3).trans rfl; have hfz40_0 := blk_frozen BK139.out 0; have hfz40_1 := blk_frozen BK139.out 1; have hfz40_2 := blk_frozen BK139.out 2; have hfz40_3 := blk_frozen BK139.out 3))
                      go_roundg kj4
                      case measure => have := HK1.out; have := HJ4.out; omega
                      case rel => exact ⟨(t143), (x140000_1), (x140001_1), (y146), (wrap64 ((a0.size : Int) - (t143.size : Int))), (.slice Ao39 y146.length co39), (by first | rfl | (simp; done) | (simp [*]; done)), H', ⟨by have := HK1.out; have := HJ4.out; omega⟩, ⟨by (with_reducible repeat (first | apply Kd.R_alloc | apply Kd.R_drewN | apply Kd.R_drew)); exact Kd.R_mono (Kd.R_far (p := ⟨gb139, 3, none⟩) (Kd.R_far (p := ⟨gb139, 2, none⟩) (Kd.R_types HO148.out BK139.out (by decide)) (fun _ hk => hk.2) (.slice Ao39 y146.length co39)) (fun _ hk => hk.2) (.int .i64 (wrap64 ((a0.size : Int) - (t143.size : Int))))) (fun _ hk => trivial)⟩, ⟨by (with_reducible repeat (first | refine blk_drewN ?_ _ | refine blk_drew ?_ | refine blk_alloc ?_ _)); refine blk_put (cs := #[.int .i64 x140000_1, .string x140001_1, .slice Ao39 y146.length co39, .int .i64 x140003_1]) ?_ 3 _ rfl; (with_reducible repeat (first | refine blk_drewN ?_ _ | refine blk_drew ?_ | refine blk_alloc ?_ _)); refine blk_put (cs := #[.int .i64 x140000_1, .string x140001_1, .slice Ao37 x140002_1.length co37, .int .i64 x140003_1]) ?_ 2 _ rfl; (with_reducible repeat (first | refine blk_drewN ?_ _ | refine blk_drew ?_ | refine blk_alloc ?_ _)); exact BK139.out⟩, ⟨by repeat (first | (with_reducible first | exact HB.out | apply below_alloc | apply pw_below_drewN | apply below_drew1 | refine below_set ?_ GE139.out | refine below_set ?_ GE145.out) | exact HB.out)⟩⟩
                    · rw [if_neg c33] at H
                      exact absurd H (by simp)
                  · rw [if_neg c32] at H
                    have c32b0 : (t141 == (wrap64 ((x140002_1.length : Int) + 1))) = false := beq_eq_false_iff_ne.mpr c32
                    have c32b1 : (t141 != (wrap64 ((x140002_1.length : Int) + 1))) = true := bne_iff_ne.mpr c32
                    simp only [Option.some.injEq, Prod.mk.injEq] at H
                    obtain ⟨rfl, rfl, rfl, rfl⟩ := H
                    have hnb41 := NB139_145.out
                    have hnc41 := NB145_139.out
                    have hcz42_0 : wc.cell? ⟨gb139, 0, none⟩ = some (.int .i64 x140000_1) := (blk_cell BK139.out 0).trans rfl
                    have hcz42_1 : wc.cell? ⟨gb139, 1, none⟩ = some (.string x140001_1) := (blk_cell BK139.out 1).trans rfl
                    have hcz42_2 : wc.cell? ⟨gb139, 2, none⟩ = some (u140002) := (blk_cell BK139.out 2).trans rfl
                    have hcz42_3 : wc.cell? ⟨gb139, 3, none⟩ = some (.int .i64 x140003_1) := (blk_cell BK139.out 3).trans rfl
                    have hfz42_0 := blk_frozen BK139.out 0
                    have hfz42_1 := blk_frozen BK139.out 1
                    have hfz42_2 := blk_frozen BK139.out 2
                    have hfz42_3 := blk_frozen BK139.out 3
                    have hcz43_0 : wc.cell? ⟨gb145, 0, none⟩ = some (.string t140) := (blk_cell BK145.out 0).trans rfl
                    have hcz43_1 : wc.cell? ⟨gb145, 1, none⟩ = some (.int .i64 t141) := (blk_cell BK145.out 1).trans rfl
                    have hcz43_2 : wc.cell? ⟨gb145, 2, none⟩ = some (.string t142) := (blk_cell BK145.out 2).trans rfl
                    have hfz43_0 := blk_frozen BK145.out 0
                    have hfz43_1 := blk_frozen BK145.out 1
                    have hfz43_2 := blk_frozen BK145.out 2
                    obtain ⟨Ao44, co44, eo44⟩ := Kd.R_slice HO_140002.out
                    subst eo44
                    go_wp2
                    (try rw [Exit.noGoto_ret])
                    refine bodyPost_ret (results_cell_row rfl _ _ gb139 105 #[.int .i64 x140000_1, .string x140001_1, .slice Ao44 x140002_1.length co44, .int .i64 x140003_1] (0, 0) _ rfl (by (with_reducible repeat (first | refine blk_drewN ?_ _ | refine blk_drew ?_ | refine blk_alloc ?_ _)); refine blk_put (cs := #[.int .i64 x140000_1, .string x140001_1, .slice Ao44 x140002_1.length co44, .int .i64 x140003_1]) ?_ 3 _ rfl; (with_reducible repeat (first | refine blk_drewN ?_ _ | refine blk_drew ?_ | refine blk_alloc ?_ _)); refine blk_put (cs := #[.int .i64 x140000_1, .string x140001_1, .slice Ao44 x140002_1.length co44, .int .i64 x140003_1]) ?_ 2 _ rfl; (with_reducible repeat (first | refine blk_drewN ?_ _ | refine blk_drew ?_ | refine blk_alloc ?_ _)); refine blk_put (cs := #[.int .i64 x140000_1, .string x140001_1, .slice Ao44 x140002_1.length co44, .int .i64 x140003_1]) ?_ 1 _ rfl; (with_reducible repeat (first | refine blk_drewN ?_ _ | refine blk_drew ?_ | refine blk_alloc ?_ _)); refine blk_put (cs := #[.int .i64 x140000_1, .string x140001_1, .slice Ao44 x140002_1.length co44, .int .i64 x140003_1]) ?_ 0 _ rfl; (with_reducible repeat (first | refine blk_drewN ?_ _ | refine blk_drew ?_ | refine blk_alloc ?_ _)); exact BK139.out) Tryz.underlying105 rfl (by kernel_rfl)) rfl ?_
                    exact ⟨_, by first | rfl | (simp [errW_none, errW_some] <;> rfl) | (simp [*, errW_none, errW_some] <;> rfl), by (with_reducible repeat (first | apply Kd.R_alloc | apply Kd.R_drewN | apply Kd.R_drew)); exact Kd.R_mono (Kd.R_far (p := ⟨gb139, 3, none⟩) (Kd.R_far (p := ⟨gb139, 2, none⟩) (Kd.R_far (p := ⟨gb139, 1, none⟩) (Kd.R_far (p := ⟨gb139, 0, none⟩) (Kd.R_types HO_140002.out BK139.out (by decide)) (fun _ hk => hk.2) (.int .i64 x140000_1)) (fun _ hk => hk.2) (.string x140001_1)) (fun _ hk => hk.2) (.slice Ao44 x140002_1.length co44)) (fun _ hk => hk.2) (.int .i64 x140003_1)) (fun _ hk => trivial), by repeat (first | (with_reducible first | exact HB.out | apply below_alloc | apply pw_below_drewN | apply below_drew1 | refine below_set ?_ GE139.out | refine below_set ?_ GE145.out) | exact HB.out)⟩
                · rw [if_neg c31] at H
                  have c31b0 : (t140.toList == ([114, 101, 99] : List UInt8)) = false := beq_eq_false_iff_ne.mpr c31
                  have c31b1 : (t140.toList != ([114, 101, 99] : List UInt8)) = true := bne_iff_ne.mpr c31
                  simp only [Option.some.injEq, Prod.mk.injEq] at H
                  obtain ⟨rfl, rfl, rfl, rfl⟩ := H
                  have hnb45 := NB139_145.out
                  have hnc45 := NB145_139.out
                  have hcz46_0 : wc.cell? ⟨gb139, 0, none⟩ = some (.int .i64 x140000_1) := (blk_cell BK139.out 0).trans rfl
                  have hcz46_1 : wc.cell? ⟨gb139, 1, none⟩ = some (.string x140001_1) := (blk_cell BK139.out 1).trans rfl
                  have hcz46_2 : wc.cell? ⟨gb139, 2, none⟩ = some (u140002) := (blk_cell BK139.out 2).trans rfl
                  have hcz46_3 : wc.cell? ⟨gb139, 3, none⟩ = some (.int .i64 x140003_1) := (blk_cell BK139.out 3).trans rfl
                  have hfz46_0 := blk_frozen BK139.out 0
                  have hfz46_1 := blk_frozen BK139.out 1
                  have hfz46_2 := blk_frozen BK139.out 2
                  have hfz46_3 := blk_frozen BK139.out 3
                  have hcz47_0 : wc.cell? ⟨gb145, 0, none⟩ = some (.string t140) := (blk_cell BK145.out 0).trans rfl
                  have hcz47_1 : wc.cell? ⟨gb145, 1, none⟩ = some (.int .i64 t141) := (blk_cell BK145.out 1).trans rfl
                  have hcz47_2 : wc.cell? ⟨gb145, 2, none⟩ = some (.string t142) := (blk_cell BK145.out 2).trans rfl
                  have hfz47_0 := blk_frozen BK145.out 0
                  have hfz47_1 := blk_frozen BK145.out 1
                  have hfz47_2 := blk_frozen BK145.out 2
                  obtain ⟨Ao48, co48, eo48⟩ := Kd.R_slice HO_140002.out
                  subst eo48
                  go_wp2
                  (try rw [Exit.noGoto_ret])
                  refine bodyPost_ret (results_cell_row rfl _ _ gb139 105 #[.int .i64 x140000_1, .string x140001_1, .slice Ao48 x140002_1.length co48, .int .i64 x140003_1] (0, 0) _ rfl (by (with_reducible repeat (first | refine blk_drewN ?_ _ | refine blk_drew ?_ | refine blk_alloc ?_ _)); refine blk_put (cs := #[.int .i64 x140000_1, .string x140001_1, .slice Ao48 x140002_1.length co48, .int .i64 x140003_1]) ?_ 3 _ rfl; (with_reducible repeat (first | refine blk_drewN ?_ _ | refine blk_drew ?_ | refine blk_alloc ?_ _)); refine blk_put (cs := #[.int .i64 x140000_1, .string x140001_1, .slice Ao48 x140002_1.length co48, .int .i64 x140003_1]) ?_ 2 _ rfl; (with_reducible repeat (first | refine blk_drewN ?_ _ | refine blk_drew ?_ | refine blk_alloc ?_ _)); refine blk_put (cs := #[.int .i64 x140000_1, .string x140001_1, .slice Ao48 x140002_1.length co48, .int .i64 x140003_1]) ?_ 1 _ rfl; (with_reducible repeat (first | refine blk_drewN ?_ _ | refine blk_drew ?_ | refine blk_alloc ?_ _)); refine blk_put (cs := #[.int .i64 x140000_1, .string x140001_1, .slice Ao48 x140002_1.length co48, .int .i64 x140003_1]) ?_ 0 _ rfl; (with_reducible repeat (first | refine blk_drewN ?_ _ | refine blk_drew ?_ | refine blk_alloc ?_ _)); exact BK139.out) Tryz.underlying105 rfl (by kernel_rfl)) rfl ?_
                  exact ⟨_, by first | rfl | (simp [errW_none, errW_some] <;> rfl) | (simp [*, errW_none, errW_some] <;> rfl), by (with_reducible repeat (first | apply Kd.R_alloc | apply Kd.R_drewN | apply Kd.R_drew)); exact Kd.R_mono (Kd.R_far (p := ⟨gb139, 3, none⟩) (Kd.R_far (p := ⟨gb139, 2, none⟩) (Kd.R_far (p := ⟨gb139, 1, none⟩) (Kd.R_far (p := ⟨gb139, 0, none⟩) (Kd.R_types HO_140002.out BK139.out (by decide)) (fun _ hk => hk.2) (.int .i64 x140000_1)) (fun _ hk => hk.2) (.string x140001_1)) (fun _ hk => hk.2) (.slice Ao48 x140002_1.length co48)) (fun _ hk => hk.2) (.int .i64 x140003_1)) (fun _ hk => trivial), by repeat (first | (with_reducible first | exact HB.out | apply below_alloc | apply pw_below_drewN | apply below_drew1 | refine below_set ?_ GE139.out | refine below_set ?_ GE145.out) | exact HB.out)⟩
              · rw [if_neg c30] at H
                have c30b0 : decide (0 < x140000_1) = false := decide_eq_false c30
                clear c30
                simp only [Option.some.injEq, Prod.mk.injEq] at H
                obtain ⟨rfl, rfl, rfl, rfl⟩ := H
                have hnb49 := NB139_145.out
                have hnc49 := NB145_139.out
                have hcz50_0 : wc.cell? ⟨gb139, 0, none⟩ = some (.int .i64 x140000_1) := (blk_cell BK139.out 0).trans rfl
                have hcz50_1 : wc.cell? ⟨gb139, 1, none⟩ = some (.string x140001_1) := (blk_cell BK139.out 1).trans rfl
                have hcz50_2 : wc.cell? ⟨gb139, 2, none⟩ = some (u140002) := (blk_cell BK139.out 2).trans rfl
                have hcz50_3 : wc.cell? ⟨gb139, 3, none⟩ = some (.int .i64 x140003_1) := (blk_cell BK139.out 3).trans rfl
                have hfz50_0 := blk_frozen BK139.out 0
                have hfz50_1 := blk_frozen BK139.out 1
                have hfz50_2 := blk_frozen BK139.out 2
                have hfz50_3 := blk_frozen BK139.out 3
                obtain ⟨Ao51, co51, eo51⟩ := Kd.R_slice HO_140002.out
                subst eo51
                go_wp2
                (try rw [Exit.noGoto_ret])
                refine bodyPost_ret (results_cell_row rfl _ _ gb139 105 #[.int .i64 x140000_1, .string x140001_1, .slice Ao51 x140002_1.length co51, .int .i64 x140003_1] (0, 0) _ rfl (by (with_reducible repeat (first | refine blk_drewN ?_ _ | refine blk_drew ?_ | refine blk_alloc ?_ _)); refine blk_put (cs := #[.int .i64 x140000_1, .string x140001_1, .slice Ao51 x140002_1.length co51, .int .i64 x140003_1]) ?_ 3 _ rfl; (with_reducible repeat (first | refine blk_drewN ?_ _ | refine blk_drew ?_ | refine blk_alloc ?_ _)); refine blk_put (cs := #[.int .i64 x140000_1, .string x140001_1, .slice Ao51 x140002_1.length co51, .int .i64 x140003_1]) ?_ 2 _ rfl; (with_reducible repeat (first | refine blk_drewN ?_ _ | refine blk_drew ?_ | refine blk_alloc ?_ _)); refine blk_put (cs := #[.int .i64 x140000_1, .string x140001_1, .slice Ao51 x140002_1.length co51, .int .i64 x140003_1]) ?_ 1 _ rfl; (with_reducible repeat (first | refine blk_drewN ?_ _ | refine blk_drew ?_ | refine blk_alloc ?_ _)); refine blk_put (cs := #[.int .i64 x140000_1, .string x140001_1, .slice Ao51 x140002_1.length co51, .int .i64 x140003_1]) ?_ 0 _ rfl; (with_reducible repeat (first | refine blk_drewN ?_ _ | refine blk_drew ?_ | refine blk_alloc ?_ _)); exact BK139.out) Tryz.underlying105 rfl (by kernel_rfl)) rfl ?_
                exact ⟨_, by first | rfl | (simp [errW_none, errW_some] <;> rfl) | (simp [*, errW_none, errW_some] <;> rfl), by (with_reducible repeat (first | apply Kd.R_alloc | apply Kd.R_drewN | apply Kd.R_drew)); exact Kd.R_mono (Kd.R_far (p := ⟨gb139, 3, none⟩) (Kd.R_far (p := ⟨gb139, 2, none⟩) (Kd.R_far (p := ⟨gb139, 1, none⟩) (Kd.R_far (p := ⟨gb139, 0, none⟩) (Kd.R_types HO_140002.out BK139.out (by decide)) (fun _ hk => hk.2) (.int .i64 x140000_1)) (fun _ hk => hk.2) (.string x140001_1)) (fun _ hk => hk.2) (.slice Ao51 x140002_1.length co51)) (fun _ hk => hk.2) (.int .i64 x140003_1)) (fun _ hk => trivial), by repeat (first | (with_reducible first | exact HB.out | apply below_alloc | apply pw_below_drewN | apply below_drew1 | refine below_set ?_ GE139.out | refine below_set ?_ GE145.out) | exact HB.out)⟩
      · replace c4 := Bool.eq_false_iff.mpr c4
        subst c4
        have H1 : (some (x140000_1, x140001_1, x140002_1, x140003_1)) = some (r1, r2, r3, r4) := by rw [if_neg (show ¬ (false = true) by decide)] at H; exact H
        clear H
        have H := H1
        clear H1
        simp only [Option.some.injEq, Prod.mk.injEq] at H
        obtain ⟨rfl, rfl, rfl, rfl⟩ := H
        go_wp2_with (first | ((with_reducible refine gate_callee (f := 83) rfl ?_); refine goesL_ (some 10) rfl rfl Tryz.func83 (by kernel_rfl) rfl #[.string x3_1] rfl (by (try simp only [List.map_toArray, List.map_cons, List.map_nil]); first | done | rfl | (simp only [List.length_drop, List.length_take]; rfl)) ?_; (with_reducible refine (ledger_read.calls k1 x3_1 t140 t141 t142 t143 false _ A3.out (gl_below HG.out (by repeat (first | (with_reducible first | exact HB.out | apply below_alloc | apply pw_below_drewN | apply below_drew1 | refine below_set ?_ GE139.out) | exact HB.out)))).mono ?_); rintro e w52 ⟨rfl, hb⟩; refine ⟨_, rfl, ?_⟩; have n0_ := Aside0.mk (Kd.R_below (by (with_reducible repeat (first | apply Kd.R_alloc | apply Kd.R_drewN | apply Kd.R_drew)); exact HO_140002.out) hb); have n1_ := Aside0.mk (blk_below (g := gb139) (o := .cells #[.int .i64 x140000_1, .string x140001_1, u140002, .int .i64 x140003_1] 105 (0, 0)) (by (with_reducible repeat (first | refine blk_drewN ?_ _ | refine blk_drew ?_ | refine blk_alloc ?_ _)); exact BK139.out) hb); have n2_ := Aside0.mk (below_step (by repeat (first | (with_reducible first | exact HB.out | apply below_alloc | apply pw_below_drewN | apply below_drew1 | refine below_set ?_ GE139.out) | exact HB.out)) hb); clear HO_140002; clear BK139; clear HB; have HO_140002 := n0_; have BK139 := n1_; have HB := n2_; clear n0_ n1_ n2_; (try clear hb); (try clear hb2); (try clear hk); (try clear hi)) | ((with_reducible refine gate_dst (N := 4) rfl ?_); (try (refine gate_guard (by rfl) ?_; dsimp only)); refine box_event ?hg (N := 4) ?hd (cs := #[.string (⟨#[]⟩ : ByteArray), .int .i64 0, .string (⟨#[]⟩ : ByteArray)]) (t := 135) ?hr ?_; (case hd => rfl); (case hg => rfl); (case hr => first | (go_simp; done) | (go_simp; rfl)); intro gb145 hg w53 hbox hb; have n0_ := Aside0.mk (Kd.R_below (by (with_reducible repeat (first | apply Kd.R_alloc | apply Kd.R_drewN | apply Kd.R_drew)); exact HO_140002.out) hb); have n1_ := Aside0.mk (blk_below (g := gb139) (o := .cells #[.int .i64 x140000_1, .string x140001_1, u140002, .int .i64 x140003_1] 105 (0, 0)) (by (with_reducible repeat (first | refine blk_drewN ?_ _ | refine blk_drew ?_ | refine blk_alloc ?_ _)); exact BK139.out) hb); have n2_ := Aside0.mk (below_step (by repeat (first | (with_reducible first | exact HB.out | apply below_alloc | apply pw_below_drewN | apply below_drew1 | refine below_set ?_ GE139.out) | exact HB.out)) hb); have n3_ := Aside0.mk (hbox); have n4_ := Aside0.mk ((by rw [hg]; exact (below_size (by repeat (first | (with_reducible first | exact HB.out | apply below_alloc | apply pw_below_drewN | apply below_drew1 | refine below_set ?_ GE139.out) | exact HB.out))) : w.heap.size ≤ gb145)); have n5_ := Aside0.mk ((by rw [hg]; exact (below_size (by repeat (first | (with_reducible first | exact HB.out | apply below_alloc | apply pw_below_drewN | apply below_drew1 | refine below_set ?_ GE139.out) | exact HB.out))) : w.heap.size ≤ gb145)); have n6_ := Aside0.mk ((by rw [hg]; exact Nat.ne_of_lt (blk_lt (g := gb139) (o := .cells #[.int .i64 x140000_1, .string x140001_1, u140002, .int .i64 x140003_1] 105 (0, 0)) (by (with_reducible repeat (first | refine blk_drewN ?_ _ | refine blk_drew ?_ | refine blk_alloc ?_ _)); exact BK139.out)) : gb139 ≠ gb145)); have n7_ := Aside0.mk ((by rw [hg]; exact Nat.ne_of_gt (blk_lt (g := gb139) (o := .cells #[.int .i64 x140000_1, .string x140001_1, u140002, .int .i64 x140003_1] 105 (0, 0)) (by (with_reducible repeat (first | refine blk_drewN ?_ _ | refine blk_drew ?_ | refine blk_alloc ?_ _)); exact BK139.out)) : gb145 ≠ gb139)); clear HO_140002; clear BK139; clear HB; have HO_140002 := n0_; have BK139 := n1_; have HB := n2_; have BK145 := n3_; have GW145 := n4_; have GE145 := n5_; have NB139_145 := n6_; have NB145_139 := n7_; clear n0_ n1_ n2_ n3_ n4_ n5_ n6_ n7_; clear hb hbox hg; have hnb54 := NB145_139.out; have hnc54 := NB139_145.out; have hcz55_0 : w53.cell? ⟨gb145, 0, none⟩ = some (.string (⟨#[]⟩ : ByteArray)) := (blk_cell BK145.out 0).trans rfl; have hcz55_1 : w53.cell? ⟨gb145, 1, none⟩ = some (.int .i64 0) := (blk_cell BK145.out 1).trans rfl; have hcz55_2 : w53.cell? ⟨gb145, 2, none⟩ = some (.string (⟨#[]⟩ : ByteArray)) := (blk_cell BK145.out 2).trans rfl; have hfz55_0 := blk_frozen BK145.out 0; have hfz55_1 := blk_frozen BK145.out 1; have hfz55_2 := blk_frozen BK145.out 2; have hcz56_0 : w53.cell? ⟨gb139, 0, none⟩ = some (.int .i64 x140000_1) := (blk_cell BK139.out 0).trans rfl; have hcz56_1 : w53.cell? ⟨gb139, 1, none⟩ = some (.string x140001_1) := (blk_cell BK139.out 1).trans rfl; have hcz56_2 : w53.cell? ⟨gb139, 2, none⟩ = some (u140002) := (blk_cell BK139.out 2).trans rfl; have hcz56_3 : w53.cell? ⟨gb139, 3, none⟩ = some (.int .i64 x140003_1) := (blk_cell BK139.out 3).trans rfl; have hfz56_0 := blk_frozen BK139.out 0; have hfz56_1 := blk_frozen BK139.out 1; have hfz56_2 := blk_frozen BK139.out 2; have hfz56_3 := blk_frozen BK139.out 3; obtain ⟨Ao57, co57, eo57⟩ := Kd.R_slice HO_140002.out; subst eo57))
        (try rw [Exit.noGoto_ret])
        refine bodyPost_ret (results_cell_row rfl _ _ gb139 105 #[.int .i64 x140000_1, .string x140001_1, .slice Ao57 x140002_1.length co57, .int .i64 x140003_1] (0, 0) _ rfl (by (with_reducible repeat (first | refine blk_drewN ?_ _ | refine blk_drew ?_ | refine blk_alloc ?_ _)); refine blk_put (cs := #[.int .i64 x140000_1, .string x140001_1, .slice Ao57 x140002_1.length co57, .int .i64 x140003_1]) ?_ 3 _ rfl; (with_reducible repeat (first | refine blk_drewN ?_ _ | refine blk_drew ?_ | refine blk_alloc ?_ _)); refine blk_put (cs := #[.int .i64 x140000_1, .string x140001_1, .slice Ao57 x140002_1.length co57, .int .i64 x140003_1]) ?_ 2 _ rfl; (with_reducible repeat (first | refine blk_drewN ?_ _ | refine blk_drew ?_ | refine blk_alloc ?_ _)); refine blk_put (cs := #[.int .i64 x140000_1, .string x140001_1, .slice Ao57 x140002_1.length co57, .int .i64 x140003_1]) ?_ 1 _ rfl; (with_reducible repeat (first | refine blk_drewN ?_ _ | refine blk_drew ?_ | refine blk_alloc ?_ _)); refine blk_put (cs := #[.int .i64 x140000_1, .string x140001_1, .slice Ao57 x140002_1.length co57, .int .i64 x140003_1]) ?_ 0 _ rfl; (with_reducible repeat (first | refine blk_drewN ?_ _ | refine blk_drew ?_ | refine blk_alloc ?_ _)); refine blk_far ?_ NB139_145.out _; (with_reducible repeat (first | refine blk_drewN ?_ _ | refine blk_drew ?_ | refine blk_alloc ?_ _)); refine blk_far ?_ NB139_145.out _; (with_reducible repeat (first | refine blk_drewN ?_ _ | refine blk_drew ?_ | refine blk_alloc ?_ _)); refine blk_far ?_ NB139_145.out _; (with_reducible repeat (first | refine blk_drewN ?_ _ | refine blk_drew ?_ | refine blk_alloc ?_ _)); exact BK139.out) Tryz.underlying105 rfl (by kernel_rfl)) rfl ?_
        exact ⟨_, by first | rfl | (simp [errW_none, errW_some] <;> rfl) | (simp [*, errW_none, errW_some] <;> rfl), by (with_reducible repeat (first | apply Kd.R_alloc | apply Kd.R_drewN | apply Kd.R_drew)); exact Kd.R_mono (Kd.R_far (p := ⟨gb139, 3, none⟩) (Kd.R_far (p := ⟨gb139, 2, none⟩) (Kd.R_far (p := ⟨gb139, 1, none⟩) (Kd.R_far (p := ⟨gb139, 0, none⟩) (Kd.R_far (p := ⟨gb145, 2, none⟩) (Kd.R_far (p := ⟨gb145, 1, none⟩) (Kd.R_far (p := ⟨gb145, 0, none⟩) (Kd.R_types (Kd.R_types HO_140002.out BK145.out (by decide)) BK139.out (by decide)) (fun _ hk => hk.1.2) (.string t140)) (fun _ hk => hk.1.2) (.int .i64 t141)) (fun _ hk => hk.1.2) (.string t142)) (fun _ hk => hk.2) (.int .i64 x140000_1)) (fun _ hk => hk.2) (.string x140001_1)) (fun _ hk => hk.2) (.slice Ao57 x140002_1.length co57)) (fun _ hk => hk.2) (.int .i64 x140003_1)) (fun _ hk => trivial), by repeat (first | (with_reducible first | exact HB.out | apply below_alloc | apply pw_below_drewN | apply below_drew1 | refine below_set ?_ GE139.out | refine below_set ?_ GE145.out) | exact HB.out)⟩

end Go.Proofs.YtopajmbblemopaaGreatDoor.XPg
namespace Go.Proofs.YtopajmbblemopaaGreatDoor.XPg
open Go.RowKit Go.Proofs.YtopajmbblemopaaGreatDoorW.PrintWords Go.Proofs.YtopajmbblemopaaGreatDoorW.PrintLast Go.Proofs.YtopajmbblemopaaGreatDoorW.PrintMore
attribute [local go_sem] max2_int min2_int max_two min_two max_three min_three max_four min_four   -- for this text's walks alone
set_option linter.unusedVariables false
set_option linter.unusedSimpArgs false

end Go.Proofs.YtopajmbblemopaaGreatDoor.XPg
namespace Go.Proofs.YtopajmbblemopaaGreatDoor
set_option linter.unusedVariables false
set_option linter.unusedSimpArgs false
open Go.RowKit Go.Lib Go.Proofs.YtopajmbblemopaaGreatDoor.XPg Go.Proofs.YtopajmbblemopaaGreatDoorW.PrintWords Go.Proofs.YtopajmbblemopaaGreatDoorW.PrintLast
theorem bs_extract (s : ByteArray) (a b : Nat) : bsL (s.extract a b) = ((bsL s).drop a).take (b - a) := by
  unfold bsL
  rw [ByteArray.data_extract, Array.toList_extract]
theorem extract_str (s : ByteArray) (a b : Nat) : s.extract a b = str (((bsL s).drop a).take (b - a)) := by rw [← of_bs (s.extract a b), bs_extract]
theorem bt_is (s : ByteArray) (i : Int) : bt s i = (((bsL s).getD i.toNat 0).toNat : Nat) := by
  unfold bt
  have z := bs_size s
  split
  · rename_i h
    rw [List.getD_eq_getElem?_getD, List.getElem?_eq_getElem (by omega)]
    rfl
  · rename_i h
    rw [List.getD_eq_getElem?_getD, List.getElem?_eq_none (by omega)]
    rfl
theorem wrap_id {x : Int} (h0 : -9223372036854775808 ≤ x) (h1 : x ≤ 9223372036854775807) : wrap64 x = x := by unfold wrap64; omega
theorem empty_str : (⟨#[]⟩ : ByteArray) = str [] := rfl
theorem laid_eq (k : ByteArray) (n : Int) (s : ByteArray) (hk : k.size ≤ 4) (hn : inI64 n) (hs : s.size ≤ 524288) : ledger_laid.f k n s = some (str (laidL (bsL k) n (bsL s))) := by
  have i1 := itoa_len hn
  have i2 : ∀ m : Nat, m ≤ 1048576 → (itoa (m : Int)).length ≤ 20 := fun m hm => itoa_len (by unfold inI64; omega)
  have zk := bs_size k
  have zs := bs_size s
  have l1 := strand_length (bsL k)
  have l2 := strand_length (itoa n)
  have l3 := strand_length (bsL s)
  have j1 := i2 (bsL k).length (by omega)
  have j2 := i2 (itoa n).length (by omega)
  have j3 := i2 (bsL s).length (by omega)
  have lt : (tieL [bsL k, itoa n, bsL s]).length = (strandL (bsL k)).length + ((strandL (itoa n)).length + (strandL (bsL s)).length) := by simp [tieL]
  have l4 := strand_length (sealL (tieL [bsL k, itoa n, bsL s]))
  rw [seal_length] at l4
  have j4 := i2 ((tieL [bsL k, itoa n, bsL s]).length + 8) (by omega)
  unfold ledger_laid.f knot_Num.f
  rw [if_pos ⟨hn.1, hn.2⟩]
  simp only [Option.bind_some]
  unfold knot_Tie.f
  have e1 : ([k, str (itoa n), s].map bsL) = [bsL k, itoa n, bsL s] := by simp [bs_of]
  rw [e1, if_pos (by omega)]
  simp only [Option.bind_some]
  unfold knot_Seal.f
  rw [if_pos (by rw [str_size]; omega), bs_of]
  simp only [Option.bind_some]
  have e2 : ([str (sealL (tieL [bsL k, itoa n, bsL s]))].map bsL) = [sealL (tieL [bsL k, itoa n, bsL s])] := by simp [bs_of]
  have e3 : tieL [sealL (tieL [bsL k, itoa n, bsL s])] = laidL (bsL k) n (bsL s) := by unfold laidL; simp [tieL]
  rw [e2, e3]
  have l5 : (laidL (bsL k) n (bsL s)).length = (strandL (sealL (tieL [bsL k, itoa n, bsL s]))).length := rfl
  rw [if_pos (by omega)]
  rfl
theorem cut_len (s t : Txt) : (cut s t).1.length ≤ s.length ∧ (cut s t).2.1.length ≤ s.length := by
  unfold cut
  split
  · simp only [List.length_take, List.length_drop]
    omega
  · simp
theorem first_tail (s : ByteArray) (a b : Txt) (n : Int) (hs : s.size ≤ 4294967000) (hf : a.length + 1 + b.length ≤ s.size) :
    (if n < 0 then some ((⟨#[]⟩ : ByteArray), s, (10 : Int)) else (if n ≥ ((str b).size : Int) then (some ((⟨#[]⟩ : ByteArray), s, 10)) else (if 0 ≤ n then (if n < ((str b).size : Int) then (if (bt (str b) n) = 44 then (if n ≤ ((str b).size : Int) then (if 0 ≤ (wrap64 ((wrap64 ((wrap64 (((str a).size : Int) + 1)) + n)) + 1)) then (if (wrap64 ((wrap64 ((wrap64 (((str a).size : Int) + 1)) + n)) + 1)) ≤ (s.size : Int) then (some ((str b).extract 0 (n : Int).toNat, s.extract ((wrap64 ((wrap64 ((wrap64 (((str a).size : Int) + 1)) + n)) + 1)) : Int).toNat s.size, 0)) else (none)) else (none)) else (none)) else (some ((⟨#[]⟩ : ByteArray), s, 10))) else (none)) else (none))))
    = some (match (if true = true ∧ 0 ≤ n ∧ n < (b.length : Int) ∧ b.getD n.toNat 0 = 44 then some (b.take n.toNat, (bsL s).drop (a.length + 1 + n.toNat + 1)) else none) with | some (x, r) => (str x, str r, (0 : Int)) | none => (str [], s, 10)) := by
  have z := bs_size s
  by_cases h0 : n < 0
  · rw [if_pos h0, if_neg (by rintro ⟨_, h1, _⟩; omega)]
    rfl
  · rw [if_neg h0, str_size]
    by_cases h1 : n ≥ (b.length : Int)
    · rw [if_pos h1, if_neg (by rintro ⟨_, _, h2, _⟩; omega)]
      rfl
    · have hn0 : 0 ≤ n := by omega
      have hn1 : n < (b.length : Int) := by omega
      have hn2 : n ≤ (b.length : Int) := by omega
      rw [if_neg h1, if_pos hn0, if_pos hn1, bt_is, bs_of]
      by_cases h2 : b.getD n.toNat 0 = 44
      · have h3 : (((b.getD n.toNat 0).toNat : Nat) : Int) = 44 := by rw [h2]; rfl
        rw [if_pos h3, if_pos hn2]
        obtain ⟨m, rfl⟩ : ∃ m : Nat, n = m := ⟨n.toNat, by omega⟩
        have hw : wrap64 (wrap64 (wrap64 (((str a).size : Int) + 1) + (m : Int)) + 1) = ((a.length + 1 + m + 1 : Nat) : Int) := by
          rw [str_size, wrap_id (x := (a.length : Int) + 1) (by omega) (by omega), wrap_id (x := (a.length : Int) + 1 + m) (by omega) (by omega), wrap_id (by omega) (by omega)]
          rfl
        have hfit : ((a.length + 1 + m + 1 : Nat) : Int) ≤ (s.size : Int) := by omega
        rw [hw, if_pos (Int.natCast_nonneg _), if_pos hfit, Int.toNat_natCast, Int.toNat_natCast]
        have e1 : (str b).extract 0 m = str (b.take m) := by rw [extract_str, bs_of, List.drop_zero, Nat.sub_zero]
        have e2 : s.extract (a.length + 1 + m + 1) s.size = str ((bsL s).drop (a.length + 1 + m + 1)) := by
          rw [extract_str, List.take_of_length_le (by rw [List.length_drop, z]; exact Nat.le_refl _)]
        rw [Int.toNat_natCast] at h2
        rw [e1, e2, if_pos ⟨rfl, hn0, hn1, h2⟩]
      · have h3 : ¬ (((b.getD n.toNat 0).toNat : Nat) : Int) = 44 := by
          intro h
          apply h2
          rw [← UInt8.toNat_inj]
          have h44 : (44 : UInt8).toNat = 44 := rfl
          omega
        rw [if_neg h3, if_neg (by rintro ⟨_, _, _, h4⟩; exact h2 h4)]
        rfl
theorem cut_fit {s a b : Txt} {t : Bool} (h : cut s [58] = (a, b, t)) : t = true → a.length + 1 + b.length = s.length := by
  rintro rfl
  have h1 := congrArg List.length (cut_some h)
  rw [List.length_append, List.length_cons] at h1
  omega
theorem first_eq (s : ByteArray) (hs : s.size ≤ 4294967000) : knot_First.f s = some (match firstL (bsL s) with | some (x, r) => (str x, str r, 0) | none => (str [], s, 10)) := by
  have z := bs_size s
  have hm : mn (s.size : Int) 1048576 = ((min s.size maxKnot : Nat) : Int) := by unfold mn maxKnot; split <;> omega
  have he : s.extract 0 (min s.size maxKnot) = str ((bsL s).take maxKnot) := by
    rw [extract_str, List.drop_zero, Nat.sub_zero]
    congr 1
    by_cases h : s.size ≤ maxKnot
    · rw [Nat.min_eq_left h, List.take_of_length_le (by omega), List.take_of_length_le (by omega)]
    · rw [Nat.min_eq_right (by omega)]
  have hl : ((bsL s).take maxKnot).length ≤ s.size := by rw [List.length_take, z]; exact Nat.min_le_right _ _
  unfold knot_First.f
  rw [hm, if_pos (Int.natCast_nonneg _), if_pos (Int.ofNat_le.2 (Nat.min_le_left _ _)), Int.toNat_natCast, he]
  clear he hm
  unfold firstL
  generalize (bsL s).take maxKnot = u at hl ⊢
  unfold strings_Cut.f
  have hs1 : (str u).size < 4294967281 := by rw [str_size]; omega
  rw [if_pos hs1, bs_of]
  have hc : bsL (⟨#[58]⟩ : ByteArray) = [58] := rfl
  rw [hc]
  simp only [Option.bind_some]
  obtain ⟨c1, c2⟩ := cut_len u [58]
  obtain ⟨a, b, c, hc3⟩ : ∃ a b c, cut u [58] = (a, b, c) := ⟨_, _, _, rfl⟩
  rw [hc3] at c1 c2 ⊢
  simp only at c1 c2 ⊢
  have hs2 : (str a).size ≤ 281474976710656 := by rw [str_size]; omega
  unfold knot_Int.f
  rw [if_pos hs2, bs_of]
  cases hi : intL a with
  | none =>
    simp only [Option.bind_some]
    cases c <;> simp [empty_str]
  | some n =>
    simp only [Option.bind_some]
    cases c with
    | false => simp [empty_str]
    | true =>
      have := cut_fit hc3 rfl
      have hh : a.length + 1 + b.length ≤ s.size := by omega
      rw [if_pos rfl, if_pos trivial]
      exact first_tail s a b n hs hh
theorem open_eq (s : ByteArray) (hs : s.size ≤ 4294967000) : knot_Open.f s = some (match openL (bsL s) with | some t => (str t, 0) | none => (str [], 11)) := by
  have z := bs_size s
  unfold knot_Open.f openL
  have hw : wrap64 ((s.size : Int) - 8) = (s.size : Int) - 8 := wrap_id (by omega) (by omega)
  rw [hw]
  by_cases h : s.size < 8
  · rw [if_pos (by omega), if_pos (by omega)]
    rfl
  · have ht : ((s.size : Int) - 8).toNat = s.size - 8 := by omega
    rw [if_neg (by omega), if_pos (by omega), if_pos (by omega), if_neg (by omega), ht]
    have e1 : s.extract 0 (s.size - 8) = str ((bsL s).take ((bsL s).length - 8)) := by rw [extract_str, List.drop_zero, Nat.sub_zero, z]
    rw [e1]
    unfold knot_Seal.f
    rw [if_pos (by rw [str_size]; simp; omega), bs_of]
    simp only [Option.bind_some]
    rw [bs_toList, bs_toList, bs_of]
    split
    · rfl
    · rfl
theorem untie_l0_eq : ∀ (f : Nat) (s : ByteArray) (acc : List ByteArray) (K : Nat), s.size < f → f ≤ K → s.size ≤ 1048576 → acc.length ≤ 4096 →
    knot_Untie.l0 K s acc = some (match untieGo f (bsL s) (acc.map bsL) with | some l => (l.map str, 0) | none => ([], 10))
  | 0, s, acc, K, h, _, _, _ => absurd h (by omega)
  | f + 1, s, acc, K, h, hK, hs, ha => by
    obtain ⟨K, rfl⟩ : ∃ j, K = j + 1 := ⟨K - 1, by omega⟩
    have z := bs_size s
    simp only [knot_Untie.l0, untieGo]
    rw [bs_toList]
    by_cases h0 : bsL s = []
    · rw [if_pos h0, if_pos h0]
      simp only
      congr 2
      rw [List.map_map]
      have : (str ∘ bsL) = id := funext fun x => of_bs x
      rw [this, List.map_id]
    · rw [if_neg h0, if_neg h0, first_eq s (by omega)]
      simp only [Option.bind_some]
      cases hf : firstL (bsL s) with
      | none => simp
      | some p =>
        obtain ⟨x, r⟩ := p
        simp only
        rw [if_pos trivial, List.length_map]
        by_cases h1 : 4096 ≤ acc.length
        · rw [if_pos (by omega), if_pos h1]
        · rw [if_neg (by omega), if_neg h1, if_pos (by omega)]
          obtain ⟨e, _⟩ := first_some hf
          have hl := congrArg List.length e
          rw [List.length_append] at hl
          have := strand_length x
          have hr : (str r).size < f := by rw [str_size]; omega
          rw [untie_l0_eq f (str r) (acc ++ [str x]) K hr (by omega) (by rw [str_size]; omega) (by simp; omega), bs_of, List.map_append]
          simp [bs_of]
theorem untie_eq (s : ByteArray) (K : Nat) (hK : s.size + 1 ≤ K) : knot_Untie.f K s = some (match untieL (bsL s) with | some l => (l.map str, 0) | none => ([], 10)) := by
  unfold knot_Untie.f untieL
  rw [bs_size]
  unfold maxKnot
  by_cases h : 1048576 < s.size
  · rw [if_pos (by omega), if_pos h]
  · rw [if_neg (by omega), if_neg h, untie_l0_eq (s.size + 1) s [] K (by omega) hK (by omega) (by simp)]
    rfl
end Go.Proofs.YtopajmbblemopaaGreatDoor
namespace Go.Proofs.YtopajmbblemopaaGreatDoor
set_option linter.unusedVariables false
set_option linter.unusedSimpArgs false
open Go.RowKit Go.Lib Go.Proofs.YtopajmbblemopaaGreatDoor.XPg Go.Proofs.YtopajmbblemopaaGreatDoorW.PrintWords Go.Proofs.YtopajmbblemopaaGreatDoorW.PrintLast
theorem tie_mem : ∀ {l : List Txt} {x : Txt}, x ∈ l → x.length ≤ (tieL l).length
  | y :: l, x, h => by
    have e : tieL (y :: l) = strandL y ++ tieL l := rfl
    have hs := strand_length y
    rw [e, List.length_append]
    rcases List.mem_cons.1 h with h | h
    · subst h
      omega
    · have := tie_mem h
      omega
theorem open_len {s t : Txt} (h : openL s = some t) : t.length ≤ s.length := by
  rw [open_some h, seal_length]
  omega
theorem first_len {s x r : Txt} (h : firstL s = some (x, r)) : x.length ≤ s.length ∧ r.length < s.length := by
  obtain ⟨e, _⟩ := first_some h
  have := strand_length x
  rw [e, List.length_append]
  omega
theorem read_len {s t r k : Txt} {n : Int} (h : readL s = some ((k, n, t), r)) : r.length < s.length := by
  unfold readL at h
  split at h
  · cases h
  · rename_i x r' hx
    have := first_len hx
    split at h
    · cases h
    · split at h
      · split at h
        · cases h
        · split at h
          · injection h with h
            have h2 := (Prod.mk.inj h).2
            subst h2
            omega
          · cases h
      · cases h
theorem read_eq (s : ByteArray) (K : Nat) (hs : s.size ≤ 4294967000) (hK : s.size + 1 ≤ K) :
    (∀ k n t r, readL (bsL s) = some ((k, n, t), r) → ledger_read.f K s = some (str k, n, str t, str r, true)) ∧
    (readL (bsL s) = none → ∃ x n y u, ledger_read.f K s = some (x, n, y, u, false)) := by
  have z := bs_size s
  unfold ledger_read.f readL
  rw [first_eq s hs]
  simp only [Option.bind_some]
  cases hf : firstL (bsL s) with
  | none => exact ⟨fun _ _ _ _ h => (by cases h), fun _ => ⟨_, _, _, _, if_neg (show ¬ _ from (by decide : ¬ (10 : Int) = 0))⟩⟩
  | some p =>
    obtain ⟨x, r0⟩ := p
    have lx := first_len hf
    have lx1 : (str x).size ≤ 4294967000 := by rw [str_size]; omega
    simp only
    rw [if_pos trivial, open_eq (str x) lx1, bs_of]
    simp only [Option.bind_some]
    cases ho : openL x with
    | none => exact ⟨fun _ _ _ _ h => (by cases h), fun _ => ⟨_, _, _, _, if_neg (show ¬ _ from (by decide : ¬ (11 : Int) = 0))⟩⟩
    | some y =>
      have ly := open_len ho
      have ly1 : (str y).size + 1 ≤ K := by rw [str_size]; omega
      simp only
      rw [if_pos trivial, untie_eq (str y) K ly1, bs_of]
      simp only [Option.bind_some]
      cases hu : untieL y with
      | none => exact ⟨fun _ _ _ _ h => (by cases h), fun _ => ⟨_, _, _, _, if_neg (show ¬ _ from (by decide : ¬ (10 : Int) = 0))⟩⟩
      | some l =>
        have hy := (untie_some hu).1
        simp only
        rw [if_pos trivial, List.length_map]
        by_cases hl : l.length = 3
        · obtain ⟨k, m, t, rfl⟩ : ∃ k m t, l = [k, m, t] := by
            match l, hl with
            | [k, m, t], _ => exact ⟨k, m, t, rfl⟩
          have e2 : rdOf ByteArray.empty ([k, m, t].map str) 2 = str t := rfl
          have e1 : rdOf ByteArray.empty ([k, m, t].map str) 1 = str m := rfl
          have e0 : rdOf ByteArray.empty ([k, m, t].map str) 0 = str k := rfl
          have lm : m.length ≤ y.length := by rw [hy]; exact tie_mem (by simp)
          have lm1 : (str m).size ≤ 281474976710656 := by rw [str_size]; omega
          have c3 : ((([k, m, t] : List Txt).length : Nat) : Int) = 3 := rfl
          rw [c3, if_pos rfl, if_pos (by decide), e2, e1, e0, str_size]
          simp only
          unfold maxLoad
          by_cases ht : 524288 < t.length
          · have ht2 : ((t.length : Nat) : Int) > 524288 := by omega
            rw [if_pos ht2, if_pos ht]
            exact ⟨fun _ _ _ _ h => (by cases h), fun _ => ⟨_, _, _, _, rfl⟩⟩
          · have ht2 : ¬ ((t.length : Nat) : Int) > 524288 := by omega
            rw [if_neg ht2, if_neg ht, if_pos (by decide)]
            unfold knot_Int.f
            rw [if_pos lm1, bs_of]
            cases hi : intL m with
            | none =>
              simp only [Option.bind_some]
              exact ⟨fun _ _ _ _ h => (by cases h), fun _ => ⟨_, _, _, _, if_pos (by decide)⟩⟩
            | some n =>
              simp only [Option.bind_some]
              refine ⟨fun k' n' t' r' h => ?_, fun h => by cases h⟩
              injection h with h
              obtain ⟨h1, rfl⟩ := Prod.mk.inj h
              obtain ⟨rfl, h2⟩ := Prod.mk.inj h1
              obtain ⟨rfl, rfl⟩ := Prod.mk.inj h2
              exact if_pos (by decide)
        · have hl2 : ¬ ((l.length : Nat) : Int) = 3 := by omega
          rw [if_neg hl2]
          refine ⟨fun k n t r h => ?_, fun _ => ⟨_, _, _, _, rfl⟩⟩
          split at h
          · rename_i k1 m1 t1 hq
            injection hq with hq
            exact absurd (by rw [hq]; rfl) hl
          · cases h
end Go.Proofs.YtopajmbblemopaaGreatDoor
namespace Go.Proofs.YtopajmbblemopaaGreatDoor
set_option linter.unusedVariables false
set_option linter.unusedSimpArgs false
open Go.RowKit Go.Lib Go.Proofs.YtopajmbblemopaaGreatDoor.XPg Go.Proofs.YtopajmbblemopaaGreatDoorW.PrintWords Go.Proofs.YtopajmbblemopaaGreatDoorW.PrintLast
/-! ### What a tape has -/
def topEpoch : Int := 4611686018427387904
/-- What a tape has, as far as it is right. -/
def scanGo : Nat → Nat → Txt → Int → Txt → List Txt → Nat → Int × Txt × List Txt × Nat
  | 0, _, _, e, b, l, r => (e, b, l, r)
  | f + 1, N, s, e, b, l, r =>
    match readL s with
    | none => (e, b, l, r)
    | some ((k, n, t), s') =>
      if e = 0 ∧ k = kBase ∧ 1 ≤ n ∧ n ≤ topEpoch then scanGo f N s' n t l (N - s'.length)
      else if 0 < e ∧ k = kRec ∧ n = (l.length : Int) + 1 then scanGo f N s' e b (l ++ [t]) (N - s'.length)
      else (e, b, l, r)
def scanL (s : Txt) : Int × Txt × List Txt × Nat := scanGo (s.length + 1) s.length s 0 [] [] 0
/-- How the printed function tells it. -/
def outS (p : Int × Txt × List Txt × Nat) : Option (Int × ByteArray × List ByteArray × Int) := some (p.1, str p.2.1, p.2.2.1.map str, (p.2.2.2 : Int))
theorem out_stop (e : Int) (b : ByteArray) (l : List ByteArray) (r : Nat) : some (e, b, l, (r : Int)) = outS (e, bsL b, l.map bsL, r) := by
  unfold outS
  simp only
  rw [of_bs, List.map_map, show (str ∘ bsL) = id from funext fun x => of_bs x, List.map_id]
def ScanOk (f : Nat) : Prop := ∀ (x0 x3 : ByteArray) (e : Int) (b : ByteArray) (l : List ByteArray) (r : Nat) (K : Nat),
    x3.size < f → 2 * f + x3.size + 3 ≤ K → l.length + x3.size ≤ x0.size → x0.size ≤ 4294967000 → 0 ≤ e →
    ledger_scan.l0 K x0 x3 e b l (r : Int) = outS (scanGo f x0.size (bsL x3) e (bsL b) (l.map bsL) r)
theorem scan_late {f : Nat} (ih : ScanOk f) (x0 : ByteArray) (s' : Txt) (e : Int) (b : ByteArray) (l : List ByteArray) (r K : Nat) (k : Txt) (n : Int) (t : Txt)
    (h1 : s'.length < f) (h2 : 2 * f + s'.length + 3 ≤ K) (h3 : l.length + 1 + s'.length ≤ x0.size) (hs : x0.size ≤ 4294967000) (he : 0 ≤ e)
    (hw : wrap64 ((x0.size : Int) - ((str s').size : Int)) = ((x0.size - s'.length : Nat) : Int)) :
    ledger_scan.j1 (K + 1) x0 (str s') false e b l (r : Int) (str k) n (str t) = outS (if 0 < e ∧ k = kRec ∧ n = ((l.map bsL).length : Int) + 1 then scanGo f x0.size s' e (bsL b) (l.map bsL ++ [t]) (x0.size - s'.length) else (e, bsL b, l.map bsL, r)) := by
  have sz : (str s').size = s'.length := str_size _
  have hw2 : wrap64 ((l.length : Int) + 1) = (l.length : Int) + 1 := wrap_id (by omega) (by omega)
  have hb2 : (str k).toList = ([114, 101, 99] : List UInt8) ↔ k = kRec := by rw [bs_toList, bs_of]; exact Iff.rfl
  rw [ledger_scan.j1, if_neg (by decide), List.length_map, hw2, hw]
  by_cases he1 : 0 < e
  · by_cases hk : k = kRec
    · by_cases hn : n = (l.length : Int) + 1
      · have hd := ih x0 (str s') e b (l ++ [str t]) (x0.size - s'.length) K (by omega) (by omega) (by rw [List.length_append, sz, List.length_singleton]; omega) hs he
        have hlt : l.length < 8796093022208 := by omega
        have hm : (l ++ [str t]).map bsL = l.map bsL ++ [t] := by rw [List.map_append, List.map_cons, List.map_nil, bs_of]
        rw [bs_of, hm] at hd
        rw [if_pos he1, if_pos (hb2.2 hk), if_pos hn, if_pos hlt, if_pos ⟨he1, hk, hn⟩]
        exact hd
      · rw [if_pos he1, if_pos (hb2.2 hk), if_neg hn, if_neg (by rintro ⟨_, _, h3⟩; exact hn h3)]
        exact out_stop e b l r
    · rw [if_pos he1, if_neg (fun h => hk (hb2.1 h)), if_neg (by rintro ⟨_, h3, _⟩; exact hk h3)]
      exact out_stop e b l r
  · rw [if_neg he1, if_neg (by rintro ⟨h3, _⟩; exact he1 h3)]
    exact out_stop e b l r
theorem scan_early {f : Nat} (ih : ScanOk f) (x0 : ByteArray) (s' : Txt) (e : Int) (b : ByteArray) (l : List ByteArray) (r : Int) (K : Nat) (k : ByteArray) (n : Int) (t : Txt)
    (h1 : s'.length < f) (h2 : 2 * f + s'.length + 3 ≤ K) (h3 : l.length + 1 + s'.length ≤ x0.size) (hs : x0.size ≤ 4294967000) (hn : 0 ≤ n)
    (hw : wrap64 ((x0.size : Int) - ((str s').size : Int)) = ((x0.size - s'.length : Nat) : Int)) :
    ledger_scan.j1 (K + 1) x0 (str s') true e b l r k n (str t) = outS (scanGo f x0.size s' n t (l.map bsL) (x0.size - s'.length)) := by
  have sz : (str s').size = s'.length := str_size _
  have hd := ih x0 (str s') n (str t) l (x0.size - s'.length) K (by omega) (by omega) (by omega) hs hn
  rw [bs_of, bs_of] at hd
  rw [ledger_scan.j1, if_pos rfl, hw]
  exact hd
theorem scan_l0_eq (f : Nat) : ScanOk f := by
  induction f with
  | zero => intro x0 x3 e b l r K h; exact absurd h (Nat.not_lt_zero _)
  | succ f ih =>
    intro x0 x3 e b l r K h hK hl hs he
    obtain ⟨K, rfl⟩ : ∃ j, K = j + 2 := ⟨K - 2, by omega⟩
    have z := bs_size x3
    obtain ⟨hr1, hr2⟩ := read_eq x3 (K + 1) (by omega) (by omega)
    rw [ledger_scan.l0, scanGo]
    cases hr : readL (bsL x3) with
    | none =>
      obtain ⟨x, n, y, u, hu⟩ := hr2 hr
      rw [hu]
      exact out_stop e b l r
    | some p =>
      obtain ⟨⟨k, n, t⟩, s'⟩ := p
      rw [hr1 k n t s' hr]
      simp only [Option.bind_some]
      have hlen := read_len hr
      have sz : (str s').size = s'.length := str_size _
      have hw : wrap64 ((x0.size : Int) - ((str s').size : Int)) = ((x0.size - s'.length : Nat) : Int) := by
        rw [sz, wrap_id (by omega) (by omega)]
        omega
      have hb1 : (str k).toList = ([98, 97, 115, 101] : List UInt8) ↔ k = kBase := by rw [bs_toList, bs_of]; exact Iff.rfl
      have late := scan_late ih x0 s' e b l r K k n t (by omega) (by omega) (by omega) hs he hw
      rw [if_pos trivial]
      by_cases he0 : e = 0
      · by_cases hk : k = kBase
        · by_cases hn : 1 ≤ n
          · by_cases hm : n ≤ topEpoch
            · have hdec : decide (n ≤ 4611686018427387904) = true := decide_eq_true hm
              rw [if_pos he0, if_pos (hb1.2 hk), if_pos hn, hdec, if_pos ⟨he0, hk, hn, hm⟩]
              exact scan_early ih x0 s' e b l r K (str k) n t (by omega) (by omega) (by omega) hs (by omega) hw
            · have hdec : decide (n ≤ 4611686018427387904) = false := decide_eq_false hm
              rw [if_pos he0, if_pos (hb1.2 hk), if_pos hn, hdec, if_neg (by rintro ⟨_, _, _, h4⟩; exact hm h4)]
              exact late
          · rw [if_pos he0, if_pos (hb1.2 hk), if_neg hn, if_neg (by rintro ⟨_, _, h4, _⟩; exact hn h4)]
            exact late
        · rw [if_pos he0, if_neg (fun h => hk (hb1.1 h)), if_neg (by rintro ⟨_, h4, _⟩; exact hk h4)]
          exact late
      · rw [if_neg he0, if_neg (by rintro ⟨h4, _⟩; exact he0 h4)]
        exact late
theorem scan_eq (s : ByteArray) (K : Nat) (hs : s.size ≤ 4294967000) (hK : 3 * s.size + 10 ≤ K) :
    ledger_scan.f K s = outS (scanL (bsL s)) := by
  have z := bs_size s
  unfold ledger_scan.f scanL
  have h := scan_l0_eq (s.size + 1) s s 0 (⟨#[]⟩ : ByteArray) [] 0 K (by omega) (by omega) (by simp) hs (by omega)
  rw [z]
  exact h
end Go.Proofs.YtopajmbblemopaaGreatDoor
namespace Go.Proofs.YtopajmbblemopaaGreatDoor
set_option linter.unusedVariables false
set_option linter.unusedSimpArgs false
open Go.RowKit
structure LS where
  tape : Int
  epoch : Int
  recs : Int
  broken : Bool
namespace LS
/-- The first error of a call. -/
def start (L : LS) (n : Nat) : Int := if L.broken = true then 40 else if 524288 < n then 1 else 0
structure Ok (L : LS) : Prop where
  tape : L.tape = 0 ∨ L.tape = 1
  epoch0 : 0 ≤ L.epoch
  epoch1 : L.epoch < 9000000000000000000
  recs0 : 0 ≤ L.recs
  recs1 : L.recs < 9000000000000000000
end LS
def wr (s : RS) (L : LS) (t : Int) (q : Txt) : RS × LS × Int :=
  if (s.write t q).2 = 5 then ((s.write t q).1, L, 5)
  else if (s.write t q).2 = 0 then (((s.write t q).1.sync t).1, { L with broken := ((s.write t q).1.sync t).2 != 0 }, ((s.write t q).1.sync t).2)
  else ((s.write t q).1, { L with broken := true }, (s.write t q).2)
def addM (s : RS) (L : LS) (q : Txt) : RS × LS × Int :=
  if L.start q.length ≠ 0 then (s, L, L.start q.length)
  else if (wr s L L.tape (laidL kRec (L.recs + 1) q)).2.2 = 0 then ((wr s L L.tape (laidL kRec (L.recs + 1) q)).1, { (wr s L L.tape (laidL kRec (L.recs + 1) q)).2.1 with recs := (wr s L L.tape (laidL kRec (L.recs + 1) q)).2.1.recs + 1 }, 0)
  else wr s L L.tape (laidL kRec (L.recs + 1) q)
def baseM (s : RS) (L : LS) (q : Txt) : RS × LS × Int :=
  if L.start q.length ≠ 0 then (s, L, L.start q.length)
  else if (wr s L (1 - L.tape) (laidL kBase (L.epoch + 1) q)).2.2 ≠ 0 then wr s L (1 - L.tape) (laidL kBase (L.epoch + 1) q)
  else if ((wr s L (1 - L.tape) (laidL kBase (L.epoch + 1) q)).1.wipe L.tape).2 ≠ 0 then
    (((wr s L (1 - L.tape) (laidL kBase (L.epoch + 1) q)).1.wipe L.tape).1, { (wr s L (1 - L.tape) (laidL kBase (L.epoch + 1) q)).2.1 with broken := true }, ((wr s L (1 - L.tape) (laidL kBase (L.epoch + 1) q)).1.wipe L.tape).2)
  else (((wr s L (1 - L.tape) (laidL kBase (L.epoch + 1) q)).1.wipe L.tape).1, { (wr s L (1 - L.tape) (laidL kBase (L.epoch + 1) q)).2.1 with tape := 1 - L.tape, epoch := L.epoch + 1, recs := 0 }, 0)
theorem wr_keeps (s : RS) (L : LS) (t : Int) (q : Txt) : (wr s L t q).2.1.tape = L.tape ∧ (wr s L t q).2.1.epoch = L.epoch ∧ (wr s L t q).2.1.recs = L.recs := by
  unfold wr
  split
  · exact ⟨rfl, rfl, rfl⟩
  · split <;> exact ⟨rfl, rfl, rfl⟩
theorem laid_size (k : Txt) (n : Int) (q : Txt) (hk : k.length ≤ 4) (hn : inI64 n) (hq : q.length ≤ 524288) : (laidL k n q).length ≤ 600000 := by
  have i1 := itoa_len hn
  have i2 : ∀ m : Nat, m ≤ 1048576 → (Lib.itoa (m : Int)).length ≤ 20 := fun m hm => itoa_len (by unfold inI64; omega)
  have l1 := strand_length k
  have l2 := strand_length (Lib.itoa n)
  have l3 := strand_length q
  have j1 := i2 k.length (by omega)
  have j2 := i2 (Lib.itoa n).length (by omega)
  have j3 := i2 q.length (by omega)
  have lt : (tieL [k, Lib.itoa n, q]).length = (strandL k).length + ((strandL (Lib.itoa n)).length + (strandL q).length) := by simp [tieL]
  have l4 := strand_length (sealL (tieL [k, Lib.itoa n, q]))
  rw [seal_length] at l4
  have j4 := i2 ((tieL [k, Lib.itoa n, q]).length + 8) (by omega)
  unfold laidL
  omega
/-! ### In memory -/
def LCells (b : Nat) (L : LS) : List Value := [.pointer (some ⟨b, 0, none⟩), .int .i64 L.tape, .int .i64 L.epoch, .int .i64 L.recs, .bool L.broken]
structure LedAt (w : World) (lb b : Nat) (s : RS) (L : LS) (fp : List Nat) : Prop where
  reel : ReelAt w b s fp
  blk : Blk w lb (LCells b L) 117
  out : lb ∉ fp
/-- What a call leaves: the states, and nothing else has changed. -/
structure LPost (w : World) (lb b : Nat) (fp : List Nat) (s : RS) (L : LS) (w' : World) (fp' : List Nat) : Prop where
  at_ : LedAt w' lb b s L fp'
  chg : Chg (fun k => k = lb ∨ k ∈ fp) w w'
  foot : ∀ k ∈ fp', k ∈ fp ∨ w.heap.size ≤ k
theorem LPost.refl {w : World} {lb b : Nat} {fp : List Nat} {s : RS} {L : LS} (h : LedAt w lb b s L fp) : LPost w lb b fp s L w fp := ⟨h, Chg.refl _ _, fun _ h => .inl h⟩
/-- The reel goes on; the ledger's block stays. -/
theorem LPost.reel {w w1 w2 : World} {lb b : Nat} {fp fp1 : List Nat} {s s' : RS} {L : LS} (h : LPost w lb b fp s L w1 fp1) (k : RPost w1 b fp1 s' w2) : ∃ fp2, LPost w lb b fp s' L w2 fp2 := by
  obtain ⟨fp2, a, c, f⟩ := k
  have hlt := h.at_.blk.lt
  refine ⟨fp2, ⟨a, h.at_.blk.chg c h.at_.out, fun hk => ?_⟩, h.chg.trans c (fun i hi => ?_), fun i hi => ?_⟩
  · rcases f lb hk with q | q
    · exact h.at_.out q
    · omega
  · rcases h.foot i hi with q | q
    · exact .inl (.inr q)
    · exact .inr q
  · rcases f i hi with q | q
    · exact h.foot i q
    · exact .inr (Nat.le_trans h.chg.size q)
/-- A cell of the ledger is set. -/
theorem LPost.set {w w1 : World} {lb b : Nat} {fp fp1 : List Nat} {s : RS} {L L' : LS} (h : LPost w lb b fp s L w1 fp1) (k : Nat) (u : Value) (hs : (LCells b L).set k u = LCells b L') :
    LPost w lb b fp s L' (w1.setCell ⟨lb, k, none⟩ u) fp1 := by
  refine ⟨⟨h.at_.reel.chg (S := fun i => i = lb) ⟨rfl, rfl, rfl, by simp, fun i _ hi => Below.heap_setCell _ _ _ _ hi⟩ (fun i hi q => h.at_.out (q ▸ hi)), hs ▸ h.at_.blk.set k u, h.at_.out⟩, h.chg.setCell (.inl (.inl rfl)) u, h.foot⟩
theorem LPost.drawn {w w1 w2 : World} {lb b : Nat} {fp fp1 : List Nat} {s : RS} {L : LS} (h : LPost w lb b fp s L w1 fp1) (k : Below w1.heap.size w1 w2) : LPost w lb b fp s L w2 fp1 := by
  have c := Chg.of_below k (fun _ => False)
  exact ⟨⟨h.at_.reel.chg c (fun _ _ q => q), h.at_.blk.chg c (fun q => q), h.at_.out⟩, h.chg.trans c (fun _ q => q.elim), h.foot⟩
theorem LPost.drewN {w w1 : World} {lb b : Nat} {fp fp1 : List Nat} {s : RS} {L : LS} (h : LPost w lb b fp s L w1 fp1) (n : Nat) : LPost w lb b fp s L (w1.drewN n) fp1 := h.drawn ⟨rfl, rfl, rfl, Nat.le_refl _, fun _ _ => rfl⟩
/-- The ledger's cells, for a walk. -/
theorem LPost.cells {w w1 : World} {lb b : Nat} {fp fp1 : List Nat} {s : RS} {L : LS} (h : LPost w lb b fp s L w1 fp1) :
    w1.cell? ⟨lb, 0, none⟩ = some (.pointer (some ⟨b, 0, none⟩)) ∧ w1.cell? ⟨lb, 1, none⟩ = some (.int .i64 L.tape) ∧ w1.cell? ⟨lb, 2, none⟩ = some (.int .i64 L.epoch) ∧ w1.cell? ⟨lb, 3, none⟩ = some (.int .i64 L.recs) ∧ w1.cell? ⟨lb, 4, none⟩ = some (.bool L.broken) :=
  ⟨h.at_.blk.cell 0, h.at_.blk.cell 1, h.at_.blk.cell 2, h.at_.blk.cell 3, h.at_.blk.cell 4⟩
theorem LPost.free {w w1 : World} {lb b : Nat} {fp fp1 : List Nat} {s : RS} {L : LS} (h : LPost w lb b fp s L w1 fp1) (k : Nat) : w1.frozen? ⟨lb, k, none⟩ = false := h.at_.blk.frozen k
end Go.Proofs.YtopajmbblemopaaGreatDoor
namespace Go.Proofs.YtopajmbblemopaaGreatDoor
set_option linter.unusedVariables false
set_option linter.unusedSimpArgs false
open Go.RowKit
theorem begin_led (lb : Nat) (q : ByteArray) (b : Nat) (L : LS) (w : World) (h : w.cell? ⟨lb, 4, none⟩ = some (.bool L.broken)) (hq : (q.size : Int) ≤ 4294967000) :
    Calls Tryz.prog 67 #[.pointer (some ⟨lb, 0, none⟩), .string q] w fun e w' => e = .returned (.int .i64 (L.start q.size)) ∧ w = w' := by
  unfold LS.start
  cases hb : L.broken with
  | true =>
    rw [hb] at h
    go_enter Tryz.func67, Tryz.ntmps67
    go_wp2
    go_ret
    exact ⟨rfl, rfl⟩
  | false =>
    rw [hb] at h
    by_cases hl : 524288 < q.size
    · rw [if_neg (by decide), if_pos hl]
      have hl2 : (524288 : Int) < (q.size : Int) := by omega
      go_enter Tryz.func67, Tryz.ntmps67
      go_wp2
      go_ret
      exact ⟨rfl, rfl⟩
    · rw [if_neg (by decide), if_neg hl]
      have hl2 : (q.size : Int) ≤ 524288 := by omega
      go_enter Tryz.func67, Tryz.ntmps67
      go_wp2
      go_ret
      exact ⟨rfl, rfl⟩
set_option maxHeartbeats 1600000 in
theorem wr_walk (lb b : Nat) (t : Int) (s : RS) (L : LS) (fp fp0 : List Nat) (w w0 : World) (q : ByteArray) (h : LPost w0 lb b fp0 s L w fp) (hq : (q.size : Int) ≤ 4194304) :
    Calls Tryz.prog 68 #[.pointer (some ⟨lb, 0, none⟩), .int .i64 t, .string q] w fun e w' =>
      e = .returned (.int .i64 (wr s L t (bsL q)).2.2) ∧ ∃ fp', LPost w0 lb b fp0 (wr s L t (bsL q)).1 (wr s L t (bsL q)).2.1 w' fp' := by
  have c0 := h.cells.1
  have HW := hd (write_any b t s fp w q h.at_.reel hq)
  have HL := hd h
  have hbq : q.data.toList = bsL q := rfl
  rw [hbq] at HW
  unfold wr
  clear h hbq
  obtain ⟨s1, e1, hs1⟩ : ∃ s1 e1, s.write t (bsL q) = (s1, e1) := ⟨_, _, rfl⟩
  rw [hs1] at HW ⊢
  by_cases h5 : e1 = 5
  · subst h5
    rw [if_pos rfl]
    clear hs1
    go_enter Tryz.func68, Tryz.ntmps68
    go_wp2_with (go_at_call 59; refine HW.out.mono ?_; rintro e w1 ⟨rfl, hp⟩)
    go_ret
    exact ⟨rfl, HL.out.reel hp⟩
  · rw [if_neg h5]
    by_cases h0 : e1 = 0
    · subst h0
      rw [if_pos rfl]
      obtain ⟨s2, e2, hs2⟩ : ∃ s2 e2, s1.sync t = (s2, e2) := ⟨_, _, rfl⟩
      have HS : Hd (∀ w1, (∃ fp2, LPost w0 lb b fp0 s1 L w1 fp2) → Calls Tryz.prog 62 #[.pointer (some ⟨b, 0, none⟩), .int .i64 t] w1 fun e w' => e = .returned (.int .i64 e2) ∧ ∃ fp2, LPost w0 lb b fp0 s2 L w' fp2) := by
        refine hd ?_
        rintro w1 ⟨fp2, h2⟩
        refine (sync_any b t s1 fp2 w1 h2.at_.reel).mono ?_
        rintro e w' ⟨rfl, hp⟩
        rw [hs2] at hp ⊢
        exact ⟨rfl, h2.reel hp⟩
      rw [hs2]
      clear hs1 hs2 h5
      simp only
      go_enter Tryz.func68, Tryz.ntmps68
      go_wp2_with (first | (go_at_call 59; refine HW.out.mono ?_; rintro e w1 ⟨rfl, hp⟩; obtain ⟨fp2, h2⟩ := HL.out.reel hp; have c1 := h2.cells.1; have HL2 := hd h2; clear h2 hp) | (go_at_call 62; refine (HS.out _ ⟨_, HL2.out⟩).mono ?_; rintro e w2 ⟨rfl, fp3, h3⟩; have c4 := h3.cells.2.2.2.2; have f4 := h3.free 4; have HL3 := hd h3; clear h3))
      go_ret
      exact ⟨rfl, _, HL3.out.set (L' := { L with broken := e2 != 0 }) 4 _ rfl⟩
    · rw [if_neg h0]
      clear hs1
      have g5 : (e1 == 5) = false := by simpa using h5
      have g0 : (e1 == 0) = false := by simpa using h0
      have g1 : (e1 != 0) = true := by simpa using h0
      go_enter Tryz.func68, Tryz.ntmps68
      go_wp2_with (go_at_call 59; refine HW.out.mono ?_; rintro e w1 ⟨rfl, hp⟩; obtain ⟨fp2, h2⟩ := HL.out.reel hp; have c1 := h2.cells.2.2.2.2; have f4 := h2.free 4; have HL2 := hd h2; clear h2 hp)
      go_ret
      exact ⟨rfl, _, HL2.out.set (L' := { L with broken := true }) 4 _ rfl⟩
end Go.Proofs.YtopajmbblemopaaGreatDoor
