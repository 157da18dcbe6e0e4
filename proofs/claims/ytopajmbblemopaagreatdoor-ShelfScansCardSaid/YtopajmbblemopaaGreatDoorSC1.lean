/-
  Lemmas, joined of the texts WSNil Small5 WSScans.
-/
import Derived.Test.YtopajmbblemopaaGreatDoorMB28
import Derived.Test.YtopajmbblemopaaGreatDoorMB26
import Derived.Deep.QuietTactic
import Derived.BigQuiet
import Derived.Test.YtopajmbblemopaaGreatDoorMB10
namespace Go.Proofs.YtopajmbblemopaaGreatDoor
set_option linter.unusedVariables false
set_option linter.unusedSimpArgs false
open Go.RowKit
theorem slive_at {w : World} (hG : Gl w) : ∀ w', Below w.heap.size w w' → Calls Tryz.prog 10 #[] w' fun e w2 => e = .returned (.bool true) ∧ Below w.heap.size w w2 := fun w' hb => slive_any w w' hG hb
end Go.Proofs.YtopajmbblemopaaGreatDoor
namespace Go.Proofs.YtopajmbblemopaaGreatDoor
set_option linter.unusedVariables false
set_option linter.unusedSimpArgs false
open Go.RowKit
def SmallPost (l : List SAct) (w : World) (e : Ending) (w' : World) : Prop := ∃ b, e = .returned (.bool b) ∧ (b = true → l.length ≤ 40 ∧ (∀ a ∈ l, a.l.length ≤ 40) ∧ totA l l.length ≤ 6000) ∧ ∃ n, w' = w.drewN n
/-- The world has only drawn. -/
def Dr (w w' : World) : Prop := ∃ n, w' = w.drewN n
theorem Dr.cell {w w' : World} (h : Dr w w') {p : Addr} {v : Value} (hc : w.cell? p = some v) : w'.cell? p = some v := by
  obtain ⟨n, rfl⟩ := h
  exact hc
theorem Dr.more {w w' : World} (h : Dr w w') (n : Nat) : Dr w (w'.drewN n) := by
  obtain ⟨m, rfl⟩ := h
  exact ⟨m + n, World.drewN_drewN _ _ _⟩
theorem Dr.refl (w : World) : Dr w w := ⟨0, rfl⟩
theorem Dr.trans {a b c : World} (h : Dr a b) (k : Dr b c) : Dr a c := by
  obtain ⟨n, rfl⟩ := k
  exact h.more n
set_option maxHeartbeats 1600000 in
theorem small_any (A : Option Addr) (l : List SAct) (cap : Nat) (w : World) (hA : SActsAt w A l) (hlen : l.length ≤ 140737488351232) :
    Calls Tryz.prog 9 #[.slice A l.length cap] w (SmallPost l w) := by
  have HA := hd hA
  clear hA
  go_enter Tryz.func9, Tryz.ntmps9
  go_wp2_with (fail)
  go_loopw [3, 4] (fun n i wr => ∃ k m : Nat, k ≤ l.length ∧ k ≤ 41 ∧ m ≤ 300000000000000 ∧ i = .int .i64 k ∧ n = .int .i64 m ∧ Hd (Dr w wr ∧ (m ≤ 6000 → m = totA l k ∧ ∀ a ∈ l.take k, a.l.length ≤ 40))) (fun _ i _ => 51 - (RowKit.intOf i).toNat)
  case atStart => exact ⟨0, 0, by omega, by omega, by omega, rfl, rfl, hd ⟨Dr.refl _, fun _ => ⟨by simp [totA], fun a ha => by simp at ha⟩⟩⟩
  case round =>
    obtain ⟨k, m, hk, h61, hm, rfl, rfl, HR⟩ := hrel
    by_cases hlt : k < l.length ∧ k ≤ 40 ∧ m ≤ 6000
    · obtain ⟨h1, h2, h3⟩ := hlt
      obtain ⟨b, off, rfl⟩ := HA.out.addr (by intro h; rw [h] at h1; simp at h1)
      obtain ⟨a, ha⟩ : ∃ a, l[k]? = some a := ⟨_, List.getElem?_eq_getElem h1⟩
      have hc : wr.cell? ⟨b, off + k * 6 + 1, none⟩ = some (.slice a.A a.l.length a.c) := by
        have := HR.out.1.cell (HA.out.cell b off k 1 a _ rfl ha rfl)
        rwa [← Nat.add_assoc] at this
      have hal := (HA.out.ok a (List.mem_of_getElem? ha)).len
      have hac := (HA.out.ok a (List.mem_of_getElem? ha)).cap
      have HX := hd (HA.out.row a (List.mem_of_getElem? ha))
      have HT := hd (totA_succ l k a ha)
      have HTK : Hd (l.take (k + 1) = l.take k ++ [a]) := hd (by rw [List.take_add_one, ha]; rfl)
      clear ha
      have HC0 : Hd (wr.cell? ⟨b, off + k * 6 + 1, none⟩ = some (.slice a.A a.l.length a.c)) := hd hc
      go_wp2_with (fail)
      simp only [show decide ((m : Int) ≤ 6000) = true from decide_eq_true (by omega)]
      obtain ⟨wo, rfl⟩ : ∃ wo : World, wo = wr := ⟨_, rfl⟩
      go_loopw [3, 5] (fun n j w2 => ∃ jj m' : Nat, jj ≤ a.l.length ∧ jj ≤ 41 ∧ m' ≤ 300000000000000 ∧ j = .int .i64 jj ∧ n = .int .i64 m' ∧ Hd (Dr wo w2 ∧ (m' ≤ 6000 → m' = totA l k + totM a.l jj))) (fun _ j _ => 51 - (RowKit.intOf j).toNat)
      case atStart => exact ⟨0, m, by omega, by omega, by omega, rfl, rfl, hd ⟨Dr.refl _, fun q => by rw [(HR.out.2 q).1]; simp [totM]⟩⟩
      case round =>
        obtain ⟨jj, m', hj, hj41, hm', rfl, rfl, HS⟩ := hrel
        clear hc
        have hc := HS.out.1.cell HC0.out
        by_cases hlt : jj < a.l.length ∧ jj ≤ 40 ∧ m' ≤ 6000
        · obtain ⟨g1, g2, g3⟩ := hlt
          obtain ⟨b2, off2, hA2⟩ := HX.out.1.addr (by intro h; rw [h] at g1; simp at g1)
          obtain ⟨c, hcc⟩ : ∃ c, a.l[jj]? = some c := ⟨_, List.getElem?_eq_getElem g1⟩
          have x0 := (HR.out.1.trans HS.out.1).cell (HX.out.1.cell b2 off2 jj 0 c _ hA2 hcc rfl)
          have x1 := (HR.out.1.trans HS.out.1).cell (HX.out.1.cell b2 off2 jj 1 c _ hA2 hcc rfl)
          simp only [← Nat.add_assoc, Nat.add_zero] at x0 x1
          rw [hA2] at hc
          obtain ⟨hs1, hs2⟩ := HX.out.2 c (List.mem_of_getElem? hcc)
          have HU := hd (totM_succ a.l jj c hcc)
          clear hcc hA2
          go_wp2_with (fail)
          go_quiet (fail)
          go_wp2_with (fail)
          go_roundw
          case rel => exact ⟨jj + 1, m' + 1 + c.key.size + c.val.size, by omega, by omega, by omega, by go_num, by go_num, hd ⟨HS.out.1.more _, fun q => by rw [HU.out]; have := HS.out.2 g3; unfold szM; omega⟩⟩
          case measure => simp [RowKit.intOf]; omega
        · by_cases g1 : jj < a.l.length
          · by_cases g2 : jj ≤ 40
            · have g3 : ¬ m' ≤ 6000 := fun h => hlt ⟨g1, g2, h⟩
              clear hlt
              by_cases g4 : a.l.length ≤ 40
              · go_wp2_with (fail)
                exact ⟨⟨k + 1, m', by omega, by omega, by omega, by go_num, rfl, hd ⟨HR.out.1.trans HS.out.1, fun q => absurd q g3⟩⟩, by simp [RowKit.intOf]; omega⟩
              · go_wp2_with (fail)
                go_ret
                exact ⟨_, rfl, fun h => by simp at h, HR.out.1.trans HS.out.1⟩
            · clear hlt
              go_wp2_with (fail)
              go_ret
              exact ⟨_, rfl, fun h => by simp at h, HR.out.1.trans HS.out.1⟩
          · obtain rfl : jj = a.l.length := by omega
            clear hlt
            by_cases g2 : a.l.length ≤ 40
            · go_wp2_with (fail)
              go_roundw
              case rel =>
                refine ⟨k + 1, m', by omega, by omega, by omega, by go_num, rfl, hd ⟨HR.out.1.trans HS.out.1, fun q => ⟨by rw [HT.out]; exact HS.out.2 q, fun x hx => ?_⟩⟩⟩
                rw [HTK.out] at hx
                rcases List.mem_append.1 hx with hx | hx
                · exact (HR.out.2 h3).2 x hx
                · rw [List.mem_singleton.1 hx]; exact g2
              case measure => simp [RowKit.intOf]; omega
            · go_wp2_with (fail)
              go_ret
              exact ⟨_, rfl, fun h => by simp at h, HR.out.1.trans HS.out.1⟩
    · by_cases h1 : k < l.length
      · by_cases h2 : k ≤ 40
        · have h3 : ¬ m ≤ 6000 := fun h => hlt ⟨h1, h2, h⟩
          clear hlt
          go_wp2_with (fail)
          all_goals
            go_ret
            exact ⟨_, rfl, fun h => by simp at h <;> omega, HR.out.1⟩
        · clear hlt
          go_wp2_with (fail)
          all_goals
            go_ret
            exact ⟨_, rfl, fun h => by simp at h <;> omega, HR.out.1⟩
      · obtain rfl : k = l.length := by omega
        clear hlt
        by_cases h6 : l.length ≤ 40
        · by_cases h7 : m ≤ 6000
          · go_wp2_with (fail)
            go_ret
            refine ⟨_, rfl, fun _ => ⟨h6, ?_, ?_⟩, HR.out.1⟩
            · have := (HR.out.2 h7).2
              rwa [List.take_length] at this
            · rw [← (HR.out.2 h7).1]; exact h7
          · go_wp2_with (fail)
            go_ret
            exact ⟨_, rfl, fun h => by simp at h <;> omega, HR.out.1⟩
        · go_wp2_with (fail)
          all_goals
            go_ret
            exact ⟨_, rfl, fun h => by simp at h <;> omega, HR.out.1⟩
end Go.Proofs.YtopajmbblemopaaGreatDoor
namespace Go.Proofs.YtopajmbblemopaaGreatDoor
set_option linter.unusedVariables false
set_option linter.unusedSimpArgs false
open Go.RowKit Go.Maps Go.Proofs.YtopajmbblemopaaGreatDoorW.PrintWords Go.Proofs.YtopajmbblemopaaGreatDoorW.PrintLast Go.Proofs.YtopajmbblemopaaGreatDoorW.PrintMore
/-- One act that is written out. -/
theorem act_lit (w : World) (A : Option Addr) (c : Nat) (l : List MC) (hA : ChAt w A l) (hS : Slim l) (hl : l.length ≤ 140737488351232) (hc : l.length ≤ c) :
    SActsAt (w.alloc (.cells #[.int .i64 0, .slice A l.length c, .int .i64 0, .int .i64 0, .int .i64 0, .int .u8 0] 28)) (some ⟨w.heap.size, 0, none⟩) [⟨0, A, c, l, 0, 0, 0, 0⟩] := by
  have hX : Blk (w.alloc (.cells #[.int .i64 0, .slice A l.length c, .int .i64 0, .int .i64 0, .int .i64 0, .int .u8 0] 28)) w.heap.size [.int .i64 0, .slice A l.length c, .int .i64 0, .int .i64 0, .int .i64 0, .int .u8 0] 28 := Blk.new _ _ _
  refine ⟨fun a ha => ?_, fun _ => ⟨_, _, rfl⟩, fun b off i j a v hA hi hj => ?_, fun a ha => ?_⟩
  · rw [List.mem_singleton.1 ha]
    exact ⟨by show (-9223372036854775808 : Int) ≤ 0; decide, by show (0 : Int) ≤ 9223372036854775807; decide, hl, hc⟩
  · injection hA with hA
    injection hA with h1 h2
    subst h1 h2
    cases i with
    | succ i => simp at hi
    | zero =>
      injection hi with hi
      subst hi
      rw [show 0 + (0 * 6 + j) = j by omega]
      exact (hX.cell j).trans hj
  · rw [List.mem_singleton.1 ha]
    exact ⟨hA.below ((Below.refl _ _).alloc (Nat.le_refl _) _), hS⟩
theorem small_one {l : List MC} {A : Option Addr} {c : Nat} {w1 : World} {e : Ending} {w' : World} (h : SmallPost [⟨0, A, c, l, 0, 0, 0, 0⟩] w1 e w') : ∃ b, e = .returned (.bool b) ∧ (b = true → l.length ≤ 40 ∧ totM l l.length ≤ 6000) ∧ ∃ n, w' = w1.drewN n := by
  obtain ⟨b, he, hb, hn⟩ := h
  refine ⟨b, he, fun q => ?_, hn⟩
  obtain ⟨_, h2, h3⟩ := hb q
  refine ⟨h2 ⟨0, A, c, l, 0, 0, 0, 0⟩ (by simp), ?_⟩
  simpa [totA] using h3
theorem empty_own (W : World) : (W.alloc (.cells #[] 47)).ownsRow W.heap.size 47 2 (.slice (some ⟨W.heap.size, 0, none⟩) 0 0) 0 [] := by
  have := World.ownsRow_lit (base := W.heap.size) (e := 47) (size := 2) W #[] 0 (Nat.le_refl _) (Nat.zero_le _) rfl
  exact this
theorem prs_one : ∀ (l : Sh), ∀ y ∈ prsV l, y.oneCell' = true
  | [], y, h => by cases h
  | a :: l, y, h => by
    have h' : y ∈ Value.string (str a.1) :: Value.string (str a.2) :: prsV l := h
    rcases List.mem_cons.1 h' with rfl | h'
    · rfl
    rcases List.mem_cons.1 h' with rfl | h'
    · rfl
    exact prs_one l y h'
theorem bs_app (a b : ByteArray) : bsL (a ++ b) = bsL a ++ bsL b := by
  show (a ++ b).data.toList = a.data.toList ++ b.data.toList
  simp
theorem one_row {w : World} {S : Nat → Prop} {v : Value} {a : Txt × Txt} (h : PRow w S v [a]) : ∃ g c, v = .slice (some ⟨g, 0, none⟩) 1 c ∧ w.cell? ⟨g, 0, none⟩ = some (.string (str a.1)) ∧ w.cell? ⟨g, 1, none⟩ = some (.string (str a.2)) := by
  obtain ⟨B, ho, _⟩ := h
  obtain ⟨g, c, rfl⟩ := own_some ho (by simp)
  have h0 := ho.cells (g := g) rfl 0 (.string (str a.1)) rfl
  have h1 := ho.cells (g := g) rfl 1 (.string (str a.2)) rfl
  rw [add_zero] at h0 h1
  exact ⟨g, c, rfl, h0, h1⟩
theorem scan_len (f t : Txt) (p : Sh) : (scanS f t p).length ≤ p.length := List.length_filter_le _ _
theorem pinfo2 : (Tryz.prog.info? 47).map (fun i => (i.zero, i.size, i.bytes)) = some (some (.agg #[.string ⟨#[]⟩, .string ⟨#[]⟩]), 2, 32) := pinfo
/-- What one commit into a new shelf leaves. -/
theorem first_commit {s : RS} {L : LS} (h : SClean s L [] [] []) (hleft : s.left = -1) (hroom : s.room = 4194304) (hu : s.used ≤ 140) (l : List MC) (hl : l.length ≤ 40) (ht : totM l l.length ≤ 6000) :
    ∃ s' L' p' er recs', commitM s L [] (l.map MC.toC) = (s', L', p', er) ∧ SClean s' L' [] recs' p' ∧ p'.length ≤ 40 ∧ L'.Ok := by
  have hc := cost_tot l
  obtain ⟨s', L', p', er, recs', e, hs, _, _, _, _, _, _, hp, _⟩ := h.commit_any hleft (l := l.map MC.toC) (by rw [List.length_map]; omega) (by omega) (by rw [free_eq, hroom]; omega) (by decide)
  refine ⟨s', L', p', er, recs', e, hs, ?_, hs.lok⟩
  rw [List.length_map] at hp
  simp only [List.length_nil] at hp
  omega
set_option maxRecDepth 20000 in
set_option maxHeartbeats 1600000 in
theorem scans_core (w : World) (hG : Gl w) (A : Option Addr) (c : Nat) (l : List MC) (f m k : ByteArray) (hA : ChAt w A l) (hS : Slim l) (hlen : l.length ≤ 140737488351232) (hc : l.length ≤ c) (hf : f.size ≤ 140737488351232) (hm : m.size ≤ 140737488351232) (hk : k.size ≤ 140737488351232) :
    Calls Tryz.prog 3 #[.slice A l.length c, .string f, .string m, .string k] w fun e w' => e = .returned (.bool true) ∧ Below w.heap.size w w' := by
  have LV := hd (slive_at hG)
  have HG := hd hG
  have HA := hd hA
  have HSM := hd (small_any (some ⟨w.heap.size, 0, none⟩) [⟨0, A, c, l, 0, 0, 0, 0⟩] 1 _ (act_lit w A c l hA hS hlen hc) (by simp))
  have hb1 : Below w.heap.size w (w.alloc (.cells #[.int .i64 0, .slice A l.length c, .int .i64 0, .int .i64 0, .int .i64 0, .int .u8 0] 28)) := (Below.refl _ _).alloc (Nat.le_refl _) _
  have HB1 := hd hb1
  clear hG hA hb1
  go_enter Tryz.func3, Tryz.ntmps3
  go_upto_region 1 with (fail)
  go_cut [42] (fun v wx => ∃ q : Bool, v = .bool q ∧ Hd (Below w.heap.size w wx ∧ (q = false → l.length ≤ 40 ∧ totM l l.length ≤ 6000 ∧ f.size + m.size + k.size ≤ 6000 ∧ ¬ bsL m < bsL f ∧ bsL m ≠ [])))
  case first =>
    go_wp2_with (fail)
    refine HSM.out.mono ?_
    intro e w1 hpost
    obtain ⟨b, rfl, hb, n1, rfl⟩ := small_one hpost
    have HB := hd hb
    have HB2 := hd (HB1.out.trans ((below_drewN0 _ n1).mono HB1.out.size))
    clear hb HSM hpost HB1
    generalize ((w.alloc (.cells #[.int .i64 0, .slice A l.length c, .int .i64 0, .int .i64 0, .int .i64 0, .int .u8 0] 28)).drewN n1) = w1 at *
    cases b with
    | false =>
      go_wp2_with (fail)
      go_meet
      exact ⟨true, rfl, hd ⟨HB2.out, fun q => by cases q⟩⟩
    | true =>
      by_cases hb3 : bsL m < bsL f
      · have e1 : Op.bytesLess m.toList f.toList = true := by rw [bytesLess_lt, ByteArray.toList_eq, ByteArray.toList_eq]; exact decide_eq_true hb3
        clear hb3
        go_wp2_with (fail)
        all_goals
          go_meet
          exact ⟨true, rfl, hd ⟨HB2.out, fun q => by cases q⟩⟩
      · have e1 : Op.bytesLess m.toList f.toList = false := by rw [bytesLess_lt, ByteArray.toList_eq, ByteArray.toList_eq]; exact decide_eq_false hb3
        by_cases hb4 : bsL m = []
        · have e2 : m.toList = [] := by rw [ByteArray.toList_eq]; exact hb4
          have HF := hd hb3
          clear hb3 hb4
          go_wp2_with (fail)
          all_goals
            go_meet
            exact ⟨true, rfl, hd ⟨HB2.out, fun q => by cases q⟩⟩
        · have e2 : ¬ m.toList = [] := by rw [ByteArray.toList_eq]; exact hb4
          have HF := hd hb3
          have HM := hd hb4
          clear hb3 hb4
          go_wp2_with (fail)
          all_goals
            go_meet
            refine ⟨_, rfl, hd ⟨HB2.out, fun q => ?_⟩⟩
            first
              | (cases q; done)
              | (have q1 := of_decide_eq_false (Bool.or_eq_false_iff.1 q).1
                 exact ⟨(HB.out trivial).1, (HB.out trivial).2, by omega, HF.out, HM.out⟩)
  obtain ⟨q, rfl, HQ⟩ := hcut
  clear HSM HB1
  cases q with
  | true =>
    go_wp2_with (go_at_call 10; refine (LV.out _ HQ.out.1).mono ?_; rintro e w2 ⟨rfl, hl⟩)
    go_ret
    exact ⟨rfl, hl⟩
  | false =>
    obtain ⟨hl40, htot, hsz, hmf, hm0⟩ := HQ.out.2 rfl
    obtain ⟨s1, L1, o1, c1, f1, p1, _, _, l1, m1, u1⟩ := shelf_new 4194304 (by omega) (by omega)
    obtain ⟨s2, L2, p2, er, recs2, hcm, c2, hp2, ok2⟩ := first_commit c1 l1 m1 u1 l hl40 htot
    have K1 := hd c1.lok
    have HN := hd (own_new 4194304 w wc HQ.out.1 (by decide) (by decide))
    have HMF := hd hmf
    have HM0 := hd hm0
    have HO := hd (fun (w' : World) (b : Nat) (fp : List Nat) (h : MineL w w' b (RS.new 4194304) fp) => own_sopen (p := []) HG.out h o1 f1 p1 rfl (by decide))
    have HCM := hd hcm
    have HGD := hd c2.good
    have hcost : costC (l.map MC.toC) ≤ 4194304 := by have := cost_tot l; omega
    have HCO := hd hcost
    clear o1 f1 p1 c1 hcm hmf hm0 hcost c2
    go_wp2_with (go_at_call 12; refine (num5_any _ _).mono ?_; rintro e w' ⟨rfl, rfl⟩)
    refine HN.out.mono ?_
    rintro e w2 ⟨b, fp1, rfl, hm, _⟩
    have HM1 := hd hm
    clear hm HN
    go_wp2_with (go_at_call 12; refine (num5_any _ _).mono ?_; rintro e w' ⟨rfl, rfl⟩)
    refine (HO.out _ b fp1 HM1.out).mono ?_
    rintro e w3 ⟨fp2, sb, mb, lb, rfl, hs, _, _⟩
    have HS3 := hd hs
    clear hs HM1 HO
    go_wp2_with (go_at_call 12; refine (num5_any _ _).mono ?_; rintro e w' ⟨rfl, rfl⟩)
    have hbl := HS3.out.below
    have HCC := hd (sh_commit HG.out HS3.out K1.out (HA.out.below hbl) hc (by omega) (fun hne k' off q hk => by
      have h1 := HA.out.old hne q
      have h2 := HS3.out.low k' hk
      omega) (by simp) HCO.out HCM.out)
    clear hbl
    refine HCC.out.mono ?_
    rintro e w4 ⟨rfl, fp4, hs, _, _⟩
    have HS4 := hd hs
    clear hs HS3 HCC HCM
    have HSC := hd (fun f t => own_scan HS4.out f t (by omega) HGD.out.2)
    go_wp2_with (fail)
    refine (HSC.out f m).mono ?_
    rintro e w5 ⟨va, rfl, hra, hb5⟩
    have HS5 := hd (HS4.out.below_ hb5)
    have HRA := hd hra
    clear hra hb5 HSC
    have HSC : Hd (Calls Tryz.prog 15 #[.pointer (some ⟨sb, 0, none⟩), .string m, .string ⟨#[]⟩] w5 fun e w' => ∃ v, e = .returned v ∧ PRow w' (Foot sb mb lb fp4) v (scanS (bsL m) [] p2) ∧ Below w5.heap.size w5 w') := hd (own_scan HS5.out m ⟨#[]⟩ (by omega) HGD.out.2)
    go_wp2_with (fail)
    refine HSC.out.mono ?_
    rintro e w6 ⟨vb, rfl, hrb, hb6⟩
    have HS6 := hd (HS5.out.below_ hb6)
    have HRA6 := hd (HRA.out.below hb6)
    have na := scan_len (bsL f) (bsL m) p2
    have nb := scan_len (bsL m) [] p2
    obtain ⟨Ba, hoa, _⟩ := HRA6.out
    obtain ⟨Bb, hob, _⟩ := hrb
    have HOA := hd (pw_own_below hoa ((Below.refl _ _).alloc (Nat.le_refl _) (.cells #[] 47)))
    have HOB := hd hob
    have HEM := hd (empty_own w6)
    have HPA := hd (prs_one (scanS (bsL f) (bsL m) p2))
    have HPB := hd (prs_one (scanS (bsL m) [] p2))
    have HTW := hd (scanS_two HGD.out.1 HMF.out HM0.out)
    have HSC3 : Hd (∀ w', Below w6.heap.size w6 w' → Calls Tryz.prog 15 #[.pointer (some ⟨sb, 0, none⟩), .string f, .string ⟨#[]⟩] w' fun e w2 => ∃ v, e = .returned v ∧ PRow w2 (Foot sb mb lb fp4) v (scanS (bsL f) [] p2) ∧ Below w'.heap.size w' w2) := hd fun w' hb => own_scan (HS6.out.below_ hb) f ⟨#[]⟩ (by omega) HGD.out.2
    obtain ⟨n1, hn1⟩ : ∃ n1, (scanS (bsL f) (bsL m) p2).length = n1 := ⟨_, rfl⟩
    obtain ⟨n2, hn2⟩ : ∃ n2, (scanS (bsL m) [] p2).length = n2 := ⟨_, rfl⟩
    rw [hn1] at HOA na
    rw [hn2] at HOB nb
    have HN1 := hd hn1
    have HN2 := hd hn2
    clear hb6 HSC HRA hoa hob hn1 hn2 HRA6
    go_wp2_with (first
      | (at_builtin; refine wpList_append_rows rfl (.tmp 77) (.tmp 78) 40 47 (.agg #[.string ⟨#[]⟩, .string ⟨#[]⟩]) 2 32 w6.heap.size Ba rfl Tryz.underlying40 pinfo2 rfl (by decide) _ _ 0 n1 [] (prsV (scanS (bsL f) (bsL m) p2)) rfl rfl HEM.out HOA.out HPA.out (by simp) (by omega) (by omega) ?_
         intro v1 w7 hown1 hgrow1 hloc1
         have HW1 := hd hown1
         have hb7 : Below w6.heap.size w6 w7 := below_grown ((Below.refl _ _).alloc (Nat.le_refl _) (.cells #[] 47)) (Nat.le_refl _) hgrow1 (fun k' hk' => Nat.le_of_eq (Option.some.inj hk'))
         have HB7 := hd hb7
         have HOB7 := hd (pw_own_below HOB.out hb7)
         clear hown1 hgrow1 hloc1 hb7 HOB HEM HOA)
      | (at_builtin; refine wpList_append_rows rfl (.tmp 79) (.tmp 80) 40 47 (.agg #[.string ⟨#[]⟩, .string ⟨#[]⟩]) 2 32 w6.heap.size Bb rfl Tryz.underlying40 pinfo2 rfl (by decide) _ _ (0 + n1) n2 ([] ++ prsV (scanS (bsL f) (bsL m) p2)) (prsV (scanS (bsL m) [] p2)) rfl rfl HW1.out HOB7.out HPB.out HB7.out.size (by omega) (by omega) ?_
         intro v2 w8 hown2 hgrow2 hloc2
         have HW2 := hd hown2
         have hb8 : Below w6.heap.size w6 w8 := below_grown HB7.out (Nat.le_refl _) hgrow2 (fun k' hk' => (HW1.out.lt k' hk').1)
         have HB8 := hd hb8
         clear hown2 hgrow2 hloc2 hb8)
      | (go_at_call 15; refine (HSC3.out _ HB8.out).mono ?_; rintro e w9 ⟨vc, rfl, hrc, hb9⟩; have HRC := hd hrc; have HB9 := hd hb9; clear hrc hb9))
    have hr2 : PRow w8 (Foot sb mb lb fp4) v2 (scanS (bsL f) [] p2) := by
      have hlen : (scanS (bsL f) [] p2).length = 0 + n1 + n2 := by rw [← HTW.out, List.length_append, HN1.out, HN2.out]; omega
      refine PRow.of_own (B := w6.heap.size) ?_ (fun k' hk' => HS6.out.lt k' hk')
      rw [hlen, ← HTW.out, prsV_app]
      exact HW2.out
    have HSA := hd (psame_call (hr2.below HB9.out) HRC.out (by have := scan_len (bsL f) [] p2; omega))
    have HS9 := hd ((HS6.out.below_ HB8.out).below_ HB9.out)
    clear hr2 HS6 HRC HW1 HW2 HOB7 HPA HPB HTW HN1 HN2 HSC3
    refine HSA.out.mono ?_
    rintro e w10 ⟨rfl, n10, rfl⟩
    rw [decide_eq_true (rfl : scanS (bsL f) [] p2 = scanS (bsL f) [] p2)]
    have HS10 := hd (HS9.out.drewN n10)
    clear HSA HS9
    generalize w9.drewN n10 = w10 at *
    have HLEN := hd (sh_len HS10.out)
    have HSC4 := hd (own_scan0 HS10.out (by omega) HGD.out.2)
    go_wp2_with (first | (go_at_call 17; refine HLEN.out.mono ?_; rintro e w' ⟨rfl, rfl⟩) | (go_at_call 15; refine HSC4.out.mono ?_; rintro e w11 ⟨vd, rfl, hrd, hb11⟩; obtain ⟨Ad, cd, rfl, _, _⟩ := hrd.reads; have HB11 := hd hb11; clear hrd hb11))
    have HS11 := hd (HS10.out.below_ HB11.out)
    clear HS10 HB11 HLEN HSC4
    have HGET := hd (sh_get HS11.out k (by unfold maxLen; omega))
    have hkz : bsL (k ++ ⟨#[0]⟩) = bsL k ++ [0] := bs_app k ⟨#[0]⟩
    have HSC5 := hd (own_scan HS11.out k (k ++ ⟨#[0]⟩) (by omega) HGD.out.2)
    rw [hkz, scanS_one HGD.out.1] at HSC5
    have es : (str ([] : List UInt8)).toList = [] := by kernel_rfl
    cases hg : getS (bsL k) p2 with
    | none =>
      have e3 : gotS (bsL k) p2 = [] := by unfold gotS; rw [hg]
      rw [e3, hg] at HGET
      rw [hg] at HSC5
      clear hg hkz e3
      go_wp2_with (first | (go_at_call 18; refine HGET.out.mono ?_; rintro e w' ⟨rfl, rfl⟩) | (go_at_call 15; refine HSC5.out.mono ?_; rintro e w12 ⟨vd, rfl, hrd, hb12⟩; obtain ⟨Ad, cd, rfl, _, _⟩ := hrd.reads; have HB12 := hd hb12; clear hrd hb12) | (go_at_call 10; refine (LV.out _ (HS11.out.below_ HB12.out).below).mono ?_; rintro e w13 ⟨rfl, hl⟩))
      go_ret
      exact ⟨rfl, hl⟩
    | some u =>
      have e3 : gotS (bsL k) p2 = u := by unfold gotS; rw [hg]
      rw [e3, hg] at HGET
      rw [hg] at HSC5
      clear hg hkz e3
      go_wp2_with (first | (go_at_call 18; refine HGET.out.mono ?_; rintro e w' ⟨rfl, rfl⟩) | (go_at_call 15; refine HSC5.out.mono ?_; rintro e w12 ⟨vd, rfl, hrd, hb12⟩; obtain ⟨gd, cd, rfl, x0, x1⟩ := one_row hrd; rw [of_bs] at x0; have HB12 := hd hb12; clear hrd hb12) | (go_at_call 10; refine (LV.out _ (HS11.out.below_ HB12.out).below).mono ?_; rintro e w13 ⟨rfl, hl⟩))
      go_ret
      exact ⟨rfl, hl⟩
/-- As the row wants it. -/
theorem scans_walk {H : Type} {enc : TypeId × Value → H} (W : World) (hG : Gl W) (v : Value) (ho : ∃ A n c, v = .slice A n c) {d : DataW H} {p : List MemPlace} (h : DataW.Trod enc Tryz.prog W 0 (fun _ => true) true 22 v d p) (hl : Light Tryz.prog 22 d) (f : ByteArray) (hf : f.size ≤ 140737488351232) (m : ByteArray) (hm : m.size ≤ 140737488351232) (k : ByteArray) (hk : k.size ≤ 140737488351232) :
    Calls Tryz.prog 3 #[v, .string f, .string m, .string k] W fun e w' => e = .returned (.bool true) ∧ Below W.heap.size W w' := by
  obtain ⟨A, l, c, rfl, h1, h2, h3, h4⟩ := open_chs ho h hl
  exact scans_core W hG A c l f m k h3 h4 h1 h2 hf hm hk
end Go.Proofs.YtopajmbblemopaaGreatDoor
