/-
  Lemmas, joined of the texts S6 S7.
-/
import Derived.Test.YtopajmbblemopaaGreatDoorMB19
import Derived.Test.YtopajmbblemopaaGreatDoorMB9
import Derived.Deep.DeepCutAuto
import Derived.Deep.CutBlock
namespace Go.Proofs.YtopajmbblemopaaGreatDoor
set_option linter.unusedVariables false
set_option linter.unusedSimpArgs false
open Go.RowKit Go.Maps Go.WideMaps Go.Sort
theorem keys_are (p : Sh) : strKeys (mapD p) = p.map (·.1) := by
  show (p.map prD).map (fun q => strOf q.1) = p.map (·.1)
  rw [List.map_map]
  rfl
theorem le_of_lt' {a b : Txt} (h : a < b) : a ≤ b := List.le_of_lt h
theorem sorted_keys {p : Sh} (h : Rises p) {ss : List Txt} (hp : ss.Perm (strKeys (mapD p))) : ss.mergeSort (fun x y => decide (x ≤ y)) = p.map (·.1) := by
  rw [keys_are] at hp
  refine List.Perm.eq_of_pairwise (le := fun a b : Txt => a ≤ b) (fun a b _ _ h1 h2 => List.le_antisymm h1 h2) ?_ ?_ ((List.mergeSort_perm _ _).trans hp)
  · have := List.pairwise_mergeSort (le := fun x y : Txt => decide (x ≤ y)) (fun a b c h1 h2 => by simpa using List.le_trans (by simpa using h1) (by simpa using h2)) (fun a b => by
      rcases List.le_total a b with q | q
      · simp [q]
      · simp [q]) ss
    exact this.imp (fun h => by simpa using h)
  · exact List.pairwise_map.2 (h.imp fun h => le_of_lt' h)
theorem keys_call (mb : Nat) (w : World) : Calls Tryz.prog 41 #[.map (some mb)] w fun e w' =>
    e = .returned (.func (.func 72) #[] #[.pointer (some ⟨w.heap.size, 0, none⟩)]) ∧ w' = w.alloc (.cells #[.map (some mb)] 81) :=
  callsIn_wide.1 (Tryz.maps_Keys_41 (some mb) w)
theorem sorted_call (mb : Nat) (p : Sh) (w : World) (hm : MapAt w mb p) (hl : p.length ≤ 1000000) :
    Calls Tryz.prog 40 #[.func (.func 72) #[] #[.pointer (some ⟨w.heap.size, 0, none⟩)]] (w.alloc (.cells #[.map (some mb)] 81)) fun e w' =>
      ∃ v, e = .returned v ∧ w'.ownsRow (w.heap.size + 1) 9 1 v p.length ((p.map (·.1)).map encStr) ∧ Below w.heap.size w w' := by
  have hs : Maps.size (mapD p) = p.length := by simp [mapD, Maps.size]
  refine (callsIn_wide.1 (Tryz.slices_Sorted_keys_40_41 mb p.length (mapD p) EL w hm.own (by rw [hs]; unfold maxLen; omega) (by rw [hs]; omega))).mono ?_
  rintro e w' ⟨v, ss, rfl, hp, hrow, _, hb⟩
  have hlen : ss.length = p.length := by rw [hp.length_eq, keys_are, List.length_map]
  rw [sorted_keys hm.rises hp, hlen] at hrow
  have hsz : (w.alloc (.cells #[.map (some mb)] 81)).heap.size = w.heap.size + 1 := by simp
  rw [hsz] at hrow hb
  exact ⟨v, rfl, hrow, ((Below.refl w.heap.size w).alloc (Nat.le_refl _) _).trans (hb.mono (by omega))⟩
end Go.Proofs.YtopajmbblemopaaGreatDoor
namespace Go.Proofs.YtopajmbblemopaaGreatDoor
set_option linter.unusedVariables false
set_option linter.unusedSimpArgs false
open Go.RowKit Go.Maps Go.WideMaps Go.Sort
theorem pinfo : (Tryz.prog.info? 47).map (fun i => (i.zero, i.size, i.bytes)) = some (some (.agg #[.string ⟨#[]⟩, .string ⟨#[]⟩]), 2, 32) := by kernel_rfl
def prsV : Sh → List Value
  | [] => []
  | a :: l => .string (str a.1) :: .string (str a.2) :: prsV l
theorem prsV_app : ∀ (l r : Sh), prsV (l ++ r) = prsV l ++ prsV r
  | [], _ => rfl
  | a :: l, r => by
    show _ :: _ :: prsV (l ++ r) = _
    rw [prsV_app l r]
    rfl
theorem scan_step (f t : Txt) (p : Sh) (k : Nat) (a : Txt × Txt) (h : p[k]? = some a) : scanS f t (p.take (k + 1)) = scanS f t (p.take k) ++ (if betw f t a.1 = true then [a] else []) := by
  rw [List.take_add_one, h]
  unfold scanS
  rw [List.filter_append]
  congr 1
  simp only [Option.toList, List.filter_cons, List.filter_nil]
theorem below_grown {N : Nat} {w w1 w2 : World} {row : Option Nat} (h : Below N w w1) (hN : N ≤ w.heap.size) (g : w1.grownBy w2 row) (hr : ∀ k, row = some k → N ≤ k) : Below N w w2 := by
  have hs := h.size
  refine h.trans ⟨g.os, g.tape, g.output, g.size, fun i hi => g.block i (by omega) fun q => ?_⟩
  have := hr i q.symm
  omega
theorem one2 (x y : ByteArray) : ∀ u ∈ ([.string x, .string y] : List Value), u.oneCell' = true := by
  intro u hu
  simp at hu
  rcases hu with rfl | rfl <;> rfl
theorem two_new (w : World) (x y : Value) (T : TypeId) : ∀ j u, [x, y][j]? = some u → (w.alloc (.cells #[x, y] T)).cell? ((⟨w.heap.size, 0, none⟩ : Addr).add j) = some u := by
  intro j u hj
  have h2 : (⟨w.heap.size, 0, none⟩ : Addr).add j = ⟨w.heap.size, j, none⟩ := by unfold Addr.add; split <;> simp_all
  rw [h2]
  have := (Blk.new w [x, y] T).cell j
  exact this.trans hj
set_option maxHeartbeats 1600000 in
theorem scan_any (sb mb : Nat) (p : Sh) (f t : ByteArray) (w : World) (hc : w.cell? ⟨sb, 0, none⟩ = some (.map (some mb))) (hm : MapAt w mb p) (hp : p.length ≤ 1000000) (hk : ∀ a ∈ p, a.1.length ≤ maxLen) :
    Calls Tryz.prog 15 #[.pointer (some ⟨sb, 0, none⟩), .string f, .string t] w fun e w' => ∃ v B, e = .returned v ∧ w.heap.size ≤ B ∧ w'.ownsRow B 47 2 v (scanS (bsL f) (bsL t) p).length (prsV (scanS (bsL f) (bsL t) p)) ∧ Below w.heap.size w w' := by
  have HM := hd hm
  have HC := hd hc
  have HK1 := hd (keys_call mb w)
  have HK2 := hd (sorted_call mb p w hm hp)
  clear hm
  go_enter Tryz.func15, Tryz.ntmps15
  go_wp2_with (fail)
  refine HK1.out.mono ?_
  rintro e w1 ⟨rfl, rfl⟩
  go_wp2_with (fail)
  refine HK2.out.mono ?_
  rintro e w2 ⟨vk, rfl, hrow, hb⟩
  have HR := hd hrow
  have HB := hd hb
  obtain ⟨A, cap, rfl⟩ : ∃ A cap, vk = .slice A p.length cap := by
    rcases hrow.2 with ⟨rfl, h0⟩ | ⟨g, cap, cur, rfl, _⟩
    · exact ⟨none, 0, by rw [h0]⟩
    · exact ⟨_, cap, rfl⟩
  clear hrow hb HK1 HK2
  go_wp2_with (fail)
  go_loopw [6, 18] (fun v i wr => ∃ k : Nat, k ≤ p.length ∧ i = .int .i64 k ∧ Hd (wr.ownsRow w2.heap.size 47 2 v (scanS (bsL f) (bsL t) (p.take k)).length (prsV (scanS (bsL f) (bsL t) (p.take k))) ∧ Below w2.heap.size w2 wr)) (fun _ i _ => p.length - (RowKit.intOf i).toNat)
  case atStart => exact ⟨0, by omega, rfl, hd ⟨World.ownsRow_nil _ _ _ _, Below.refl _ _⟩⟩
  case round =>
    obtain ⟨k, hkl, rfl, HS⟩ := hrel
    by_cases hlt : k < p.length
    · obtain ⟨a, ha⟩ : ∃ a, p[k]? = some a := ⟨_, List.getElem?_eq_getElem hlt⟩
      obtain ⟨g, hA⟩ : ∃ g, A = some ⟨g, 0, none⟩ := by
        rcases HR.out.2 with ⟨_, h0⟩ | ⟨g, cap', cur, hv, _⟩
        · omega
        · injection hv with hv
          exact ⟨g, hv⟩
      subst hA
      have hkc : wr.cell? ⟨g, k, none⟩ = some (.string (str a.1)) := by
        have h1 := HR.out.cells (g := g) rfl k (.string (str a.1)) (by rw [List.getElem?_map, List.getElem?_map, ha]; rfl)
        have h2 : (⟨g, 0, none⟩ : Addr).add k = ⟨g, k, none⟩ := by unfold Addr.add; split <;> simp_all
        rw [h2] at h1
        exact (HS.out.2.cell (World.block_lt_of_cell? w2 _ h1)).trans h1
      have hst := scan_step (bsL f) (bsL t) p k a ha
      have HST := hd hst
      have HA := hd ha
      clear ha hst
      obtain ⟨q, hq⟩ : ∃ q, betw (bsL f) (bsL t) a.1 = q := ⟨_, rfl⟩
      rw [hq] at HST
      have HQ := hd hq
      clear hq
      go_upto_region 6 with (fail)
      go_cut [33] (fun v wx => v = .bool q ∧ wr = wx)
      case first =>
        have hq := HQ.out
        unfold betw at hq
        have e1 : Op.bytesLess (str a.1).toList f.toList = decide (a.1 < bsL f) := by rw [bytesLess_lt, ByteArray.toList_eq, ByteArray.toList_eq]; rfl
        have e2 : Op.bytesLess (str a.1).toList t.toList = decide (a.1 < bsL t) := by rw [bytesLess_lt, ByteArray.toList_eq, ByteArray.toList_eq]; rfl
        have e3 : t.toList.isEmpty = (bsL t).isEmpty := by rw [ByteArray.toList_eq]; rfl
        by_cases h1 : a.1 < bsL f
        · rw [decide_eq_true h1] at hq e1
          subst hq
          clear e2 e3 h1
          go_wp2_with (fail)
          go_meet
          exact ⟨rfl, rfl⟩
        · rw [decide_eq_false h1] at hq e1
          by_cases h2 : bsL t = []
          · have e4 : t.toList = [] := by rw [ByteArray.toList_eq]; exact h2
            rw [h2] at hq
            have e5 : true = q := hq
            subst e5
            clear e2 e3 h1 h2 hq
            go_wp2_with (fail)
            go_meet
            exact ⟨rfl, rfl⟩
          · have e4 : ¬ t.toList = [] := by rw [ByteArray.toList_eq]; exact h2
            have e5 : t.toList.isEmpty = false := by simpa using e4
            have e6 : (bsL t).isEmpty = false := by simpa using h2
            rw [e6] at hq
            have e7 : decide (a.1 < bsL t) = q := by simpa using hq
            rw [e7] at e2
            clear e3 h1 h2 hq e6 e7
            go_wp2_with (fail)
            go_meet
            exact ⟨rfl, rfl⟩
      obtain ⟨rfl, rfl⟩ := hcut
      clear HQ
      cases q with
      | false =>
        go_wp2_with (fail)
        go_roundw
        case rel =>
          refine ⟨k + 1, by omega, by go_num, hd ⟨?_, HS.out.2⟩⟩
          rw [HST.out, if_neg (by decide), List.append_nil]
          exact HS.out.1
        case measure => simp [RowKit.intOf]; omega
      | true =>
        have hmw := HM.out.below HB.out
        have hm2 : MapAt wr mb p := ((HM.out.below HB.out).below HS.out.2)
        have hg := mem_get HM.out.rises (List.mem_of_getElem? HA.out)
        have hl := hm2.look (str a.1) (by rw [str_size]; exact hk a (List.mem_of_getElem? HA.out)) false
        have hgot : gotS (bsL (str a.1)) p = a.2 := by rw [bs_of]; unfold gotS; rw [hg]
        rw [hgot, if_neg (by decide)] at hl
        have hs0 : wr.cell? ⟨sb, 0, none⟩ = some (.map (some mb)) := by
          have h1 := (HB.out.cell (World.block_lt_of_cell? w _ HC.out)).trans HC.out
          exact (HS.out.2.cell (World.block_lt_of_cell? w2 _ h1)).trans h1
        obtain ⟨i0, hi, hz0, hz1, hz2⟩ := info_parts pinfo
        have hln : (scanS (bsL f) (bsL t) (p.take k)).length ≤ 1000000 := by
          have h1 := List.length_filter_le (fun a => betw (bsL f) (bsL t) a.1) (p.take k)
          rw [List.length_take] at h1
          unfold scanS
          omega
        clear hmw hm2 hg hgot hkc
        go_wp2_with ((at_builtin; refine wpList_append_own_at _ rfl _ _ 40 rfl w2.heap.size 47 i0 (.agg #[.string ⟨#[]⟩, .string ⟨#[]⟩]) 2 32 Tryz.underlying40 hi hz0 hz1 hz2 rfl (by decide) _ _ _ rfl (HS.out.1.alloc _) ⟨wr.heap.size, 0, none⟩ 1 1 [.string (str a.1), .string (str a.2)] rfl rfl (two_new _ _ _ _) (one2 _ _) (by unfold maxLen; omega) (by omega) (by have := HS.out.2.size; simp; omega) ?_; intro v' w5 hown' hgrow hnil hloc))
        go_wp2_with (fail)
        go_roundw
        case rel =>
          refine ⟨k + 1, by omega, by go_num, hd ⟨?_, ?_⟩⟩
          · rw [HST.out, if_pos rfl, prsV_app, List.length_append]
            exact hown'
          · exact below_grown (HS.out.2.alloc HS.out.2.size _) (Nat.le_refl _) hgrow (fun j hj => (HS.out.1.lt j hj).1)
        case measure => simp [RowKit.intOf]; omega
    · obtain rfl : k = p.length := by omega
      have h := HS.out
      rw [List.take_length] at h
      go_wp2_with (fail)
      go_ret
      exact ⟨_, w2.heap.size, rfl, HB.out.size, h.1, HB.out.trans (h.2.mono HB.out.size)⟩
end Go.Proofs.YtopajmbblemopaaGreatDoor
