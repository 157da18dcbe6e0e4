/-
  Lemmas, joined of the texts WSNil Small5 WSPacks.
-/
import Derived.Test.YtopajmbblemopaaGreatDoorMB28
import Derived.Test.YtopajmbblemopaaGreatDoorMB26
import Derived.Deep.QuietTactic
import Derived.BigQuiet
namespace Go.Proofs.YtopajmbblemopaaGreatDoor
set_option linter.unusedVariables false
set_option linter.unusedSimpArgs false
open Go.RowKit
theorem slive_at {w : World} (hG : Gl w) : ∀ w', Below w.heap.size w w' → Calls Tryz.prog 10 #[] w' fun e w2 => e = .returned (.bool true) ∧ Below w.heap.size w w2 := fun w' hb => slive_any w w' hG hb
end Go.Proofs.YtopajmbblemopaaGreatDoor
namespace Go.Proofs.YtopajmbblemopaaGreatDoor
set_option linter.unusedVariables false
set_option linter.unusedSimpArgs false
open Go.RowKit
/-- The world has only drawn. -/
def Dr (w w' : World) : Prop := ∃ n, w' = w.drewN n
theorem Dr.cell {w w' : World} (h : Dr w w') {p : Addr} {v : Value} (hc : w.cell? p = some v) : w'.cell? p = some v := by
  obtain ⟨n, rfl⟩ := h
  exact hc
theorem Dr.more {w w' : World} (h : Dr w w') (n : Nat) : Dr w (w'.drewN n) := by
  obtain ⟨m, rfl⟩ := h
  exact ⟨m + n, World.drewN_drewN _ _ _⟩
theorem Dr.refl (w : World) : Dr w w := ⟨0, rfl⟩
theorem Dr.trans {a b c : World} (h : Dr a b) (k : Dr b c) : Dr a c := by
  obtain ⟨n, rfl⟩ := k
  exact h.more n
end Go.Proofs.YtopajmbblemopaaGreatDoor
namespace Go.Proofs.YtopajmbblemopaaGreatDoor
set_option linter.unusedVariables false
set_option linter.unusedSimpArgs false
open Go.RowKit Go.Maps Go.Proofs.YtopajmbblemopaaGreatDoorW.PrintWords Go.Proofs.YtopajmbblemopaaGreatDoorW.PrintLast Go.Proofs.YtopajmbblemopaaGreatDoorW.PrintMore
/-- A row of changes among rows. -/
structure SR where
  A : Option Addr
  c : Nat
  l : List MC
instance : Inhabited SR := ⟨⟨none, 0, []⟩⟩
structure SRsAt (w : World) (A : Option Addr) (l : List SR) : Prop where
  addr : l ≠ [] → ∃ b off, A = some ⟨b, off, none⟩
  cell : ∀ (b off i : Nat) (a : SR), A = some ⟨b, off, none⟩ → l[i]? = some a → w.cell? ⟨b, off + i, none⟩ = some (.slice a.A a.l.length a.c)
  row : ∀ a ∈ l, ChAt w a.A a.l ∧ Slim a.l ∧ a.l.length ≤ 140737488351232 ∧ a.l.length ≤ a.c
theorem SRsAt.below {w w' : World} {A : Option Addr} {l : List SR} (h : SRsAt w A l) (hb : Below w.heap.size w w') : SRsAt w' A l :=
  ⟨h.addr, fun b off i a hA hi => by
    have := h.cell b off i a hA hi
    exact (hb.cell (World.block_lt_of_cell? w _ this)).trans this, fun a ha => ⟨(h.row a ha).1.below hb, (h.row a ha).2⟩⟩
section
variable {H : Type} {enc : TypeId × Value → H} {w : World} {spare : Nat → Bool} {held : Bool}
theorem sr_leaves : leaves Tryz.prog 4 22 = [.deep 22] := by kernel_rfl
theorem sr_flat : flatB Tryz.prog 4 22 = true := by kernel_rfl
theorem sr_cells : Tryz.prog.cellsOf 22 = 1 := by kernel_rfl
theorem sr_of {cs : List Value} (h : LeafAll enc Tryz.prog w 0 spare held [.deep 22] cs) : ∃ a : SR, cs = [.slice a.A a.l.length a.c] ∧ ChAt w a.A a.l ∧ Slim a.l ∧ a.l.length ≤ 140737488351232 ∧ a.l.length ≤ a.c := by
  rcases cs with _ | ⟨c0, _ | ⟨c1, r⟩⟩
  all_goals try (have := LeafAll.length h; simp at this; done)
  obtain ⟨hd, _⟩ := h
  obtain ⟨A, l, c, rfl, h1, h2, h3, h4⟩ := deep_chs hd
  exact ⟨⟨A, c, l⟩, rfl, h3, h4, h1, h2⟩
set_option maxRecDepth 100000 in
theorem open_srs {v : Value} {d : DataW H} {p : List MemPlace} (hv0 : ∃ A n c, v = .slice A n c) (h : DataW.Trod enc Tryz.prog w 0 spare held 53 v d p) (hl : Light Tryz.prog 53 d) :
    ∃ A l c, v = .slice A l.length c ∧ l.length ≤ 140737488351232 ∧ SRsAt w A l := by
  rcases open_rows 4 1 Tryz.underlying53 sr_cells sr_flat hv0 h hl with rfl | ⟨a, len, cap, C, rfl, _, _, hlen, hC⟩
  · exact ⟨none, [], 0, rfl, by simp, ⟨fun h => absurd rfl h, fun b off i a hA => (by cases hA), fun a ha => (by simp at ha)⟩⟩
  · rw [sr_leaves] at hC
    obtain ⟨F, hF⟩ := Deep.choose_lt (α := SR) (n := len) (p := fun i x => C i = [.slice x.A x.l.length x.c] ∧ ChAt w x.A x.l ∧ Slim x.l ∧ x.l.length ≤ 140737488351232 ∧ x.l.length ≤ x.c) (fun i hi => sr_of (hC i hi).1)
    have hb : Tryz.prog.bytesOf 22 = 24 := by kernel_rfl
    rw [hb] at hlen
    have hmem : ∀ x ∈ (List.range len).map F, ChAt w x.A x.l ∧ Slim x.l ∧ x.l.length ≤ 140737488351232 ∧ x.l.length ≤ x.c := by
      intro x hx
      obtain ⟨i, hi, rfl⟩ := List.mem_map.1 hx
      exact (hF i (List.mem_range.1 hi)).2
    have hplain : 0 < len → ∃ b off, a = ⟨b, off, none⟩ := fun h0 => by
      have := (hC 0 h0).2.2 0 (by omega)
      rw [(hF 0 h0).1] at this
      have ha := plain_addr (a := a.add (0 * 1 + 0)) (this.trans rfl)
      have h00 : a.add (0 * 1 + 0) = a := by unfold Addr.add; simp
      rw [h00] at ha
      exact ⟨a.block, a.off, ha⟩
    refine ⟨some a, (List.range len).map F, cap, by simp, by simp; omega, ⟨?_, ?_, hmem⟩⟩
    · intro hne
      have h0 : 0 < len := by
        rcases Nat.eq_zero_or_pos len with h0 | h0
        · subst h0; exact absurd rfl hne
        · exact h0
      obtain ⟨b, off, rfl⟩ := hplain h0
      exact ⟨b, off, rfl⟩
    · intro b off i x hA hi
      injection hA with hA
      subst hA
      have hil : i < len := by
        have := (List.getElem?_eq_some_iff.1 hi).1
        simpa using this
      have hx : F i = x := by simpa [hil] using hi
      have := (hC i hil).2.2 0 (by omega)
      rw [(hF i hil).1, hx, add_off, Nat.mul_one, Nat.add_zero] at this
      exact this
end
def totR (l : List SR) (k : Nat) : Nat := ((l.take k).map (fun a => totM a.l a.l.length)).sum
theorem Dr.below {w w' : World} (h : Dr w w') : Below w.heap.size w w' := by
  obtain ⟨n, rfl⟩ := h
  exact below_drewN0 w n
theorem totR_succ (l : List SR) (k : Nat) (a : SR) (h : l[k]? = some a) : totR l (k + 1) = totR l k + totM a.l a.l.length := by
  unfold totR
  rw [List.take_add_one, h]
  simp
theorem totR_mono (l : List SR) (j k : Nat) (h : j ≤ k) : totR l j ≤ totR l k := by
  induction k with
  | zero => rw [show j = 0 by omega]; exact Nat.le_refl _
  | succ k ih =>
    rcases Nat.lt_or_ge j (k + 1) with h1 | h1
    · refine Nat.le_trans (ih (by omega)) ?_
      cases hk : l[k]? with
      | none => unfold totR; rw [List.take_add_one, hk]; simp
      | some b => rw [totR_succ l k b hk]; omega
    · rw [show j = k + 1 by omega]; exact Nat.le_refl _
/-- The shelf behind k of the commits. -/
structure PkAt (w0 w : World) (b sb mb lb : Nat) (l : List SR) (k : Nat) (s : RS) (L : LS) (p : Sh) (recs : List Txt) (fp : List Nat) : Prop where
  at_ : ShAt w0 w b sb mb lb s L p fp
  clean : SClean s L [] recs p
  len : recs.length ≤ k
  left : s.left = -1
  room : s.room = 4194304
  ep : L.epoch = 1
  used : s.used ≤ 140 + (totR l k + 4140 * k : Nat)
  cost : costP p ≤ totR l k + 4000 * k
  size : p.length ≤ 40 * k
theorem PkAt.next {w0 w : World} {b sb mb lb : Nat} {l : List SR} {k : Nat} {s : RS} {L : LS} {p : Sh} {recs : List Txt} {fp : List Nat} (hG : Gl w0) (h : PkAt w0 w b sb mb lb l k s L p recs fp) (hk : k ≤ 40) (ht : totR l l.length ≤ 6000) (a : SR) (ha : l[k]? = some a) (ha40 : a.l.length ≤ 40) (hA : ChAt w0 a.A a.l) (hc : a.l.length ≤ a.c) :
    Calls Tryz.prog 14 #[.pointer (some ⟨sb, 0, none⟩), .slice a.A a.l.length a.c] w fun r w' => ∃ er s' L' p' recs' fp', r = .returned (.int .i64 er) ∧ PkAt w0 w' b sb mb lb l (k + 1) s' L' p' recs' fp' := by
  have hts := totR_succ l k a ha
  have hkl : k + 1 ≤ l.length := (List.getElem?_eq_some_iff.1 ha).1
  have htm := totR_mono l (k + 1) l.length hkl
  have hct := cost_tot a.l
  have hu := h.used
  have hsz := h.size
  have hlen := h.len
  have hco := h.cost
  obtain ⟨s', L', p', er, recs', e, hs, hr, he, hro, hus, hle, hcp, hlp, _⟩ := h.clean.commit_any h.left (l := a.l.map MC.toC) (by rw [List.length_map]; omega) (by omega) (by rw [free_eq, h.room]; omega) (by omega)
  rw [List.length_map] at hlp
  refine (sh_commit hG h.at_ h.clean.lok (hA.below h.at_.below) hc (by omega) (fun hne k' off q hk' => by
      have h1 := hA.old hne q
      have h2 := h.at_.low k' hk'
      omega) (by omega) (by omega) e).mono ?_
  rintro r w' ⟨rfl, fp', hS, _, _⟩
  exact ⟨er, s', L', p', recs', fp', rfl, hS, hs, by omega, hle, hro.trans h.room, he.trans h.ep, by omega, by omega, by omega⟩
theorem PRow.post {w0 w w' : World} {b sb mb lb : Nat} {fp : List Nat} {s : RS} {L : LS} {p : Sh} {v : Value} {l : Sh} (h : PRow w (Foot sb mb lb fp) v l) (q : ShPost w0 w w' b sb mb lb fp s L p) : ∃ fp', ShAt w0 w' b sb mb lb s L p fp' ∧ PRow w' (Foot sb mb lb fp') v l := by
  obtain ⟨fp', a, c, f⟩ := q
  exact ⟨fp', a, h.step c (Foot.step f)⟩
theorem PRow.reopen {w w' : World} {sb mb lb sb' mb' lb' : Nat} {fp fp' : List Nat} {v : Value} {l : Sh} (h : PRow w (Foot sb mb lb fp) v l) (c : Chg (· ∈ fp) w w') (f : ∀ k, Foot sb' mb' lb' fp' k → k ∈ fp ∨ w.heap.size ≤ k) : PRow w' (Foot sb' mb' lb' fp') v l :=
  h.step (c.mono (S' := Foot sb mb lb fp) (fun _ _ q => .inr (.inr (.inr q)))) (fun k hk => (f k hk).elim (fun q => .inl (.inr (.inr (.inr q)))) .inr)
set_option maxRecDepth 20000 in
set_option maxHeartbeats 3200000 in
theorem packs_core (w : World) (hG : Gl w) (A : Option Addr) (c : Nat) (l : List SR) (hA : SRsAt w A l) (hlen : l.length ≤ 140737488351232) :
    Calls Tryz.prog 5 #[.slice A l.length c] w fun e w' => e = .returned (.bool true) ∧ Below w.heap.size w w' := by
  have LV := hd (slive_at hG)
  have HG := hd hG
  have HA := hd hA
  clear hG hA
  go_enter Tryz.func5, Tryz.ntmps5
  go_upto_block 0 with (fail)
  go_cut [3] (fun n wx => ∃ m : Nat, n = .int .i64 m ∧ m ≤ 300000000000000 ∧ Hd (Dr w wx ∧ (l.length ≤ 40 → m ≤ 6000 → m = totR l l.length ∧ ∀ a ∈ l, a.l.length ≤ 40)))
  case first =>
    go_wp2_with (fail)
    go_loopw [3, 4] (fun n i wr => ∃ k m : Nat, k ≤ l.length ∧ k ≤ 41 ∧ m ≤ 300000000000000 ∧ i = .int .i64 k ∧ n = .int .i64 m ∧ Hd (Dr w wr ∧ (m ≤ 6000 → m = totR l k ∧ ∀ a ∈ l.take k, a.l.length ≤ 40))) (fun _ i _ => 51 - (RowKit.intOf i).toNat)
    case atStart => exact ⟨0, 0, by omega, by omega, by omega, rfl, rfl, hd ⟨Dr.refl _, fun _ => ⟨by simp [totR], fun a ha => by simp at ha⟩⟩⟩
    case round =>
      obtain ⟨k, m, hk, h61, hm, rfl, rfl, HR⟩ := hrel
      by_cases hlt : k < l.length ∧ k ≤ 40 ∧ m ≤ 6000
      · obtain ⟨h1, h2, h3⟩ := hlt
        obtain ⟨b, off, rfl⟩ := HA.out.addr (by intro h; rw [h] at h1; simp at h1)
        obtain ⟨a, ha⟩ : ∃ a, l[k]? = some a := ⟨_, List.getElem?_eq_getElem h1⟩
        have hc : wr.cell? ⟨b, off + k, none⟩ = some (.slice a.A a.l.length a.c) := HR.out.1.cell (HA.out.cell b off k a rfl ha)
        obtain ⟨hx1, hx2, hal, hac⟩ := HA.out.row a (List.mem_of_getElem? ha)
        have HX := hd (And.intro hx1 hx2)
        have HT := hd (totR_succ l k a ha)
        have HTK : Hd (l.take (k + 1) = l.take k ++ [a]) := hd (by rw [List.take_add_one, ha]; rfl)
        clear ha hx1 hx2
        have HC0 : Hd (wr.cell? ⟨b, off + k, none⟩ = some (.slice a.A a.l.length a.c)) := hd hc
        go_wp2_with (fail)
        simp only [show decide ((m : Int) ≤ 6000) = true from decide_eq_true (by omega)]
        obtain ⟨wo, rfl⟩ : ∃ wo : World, wo = wr := ⟨_, rfl⟩
        go_loopw [3, 5] (fun n j w2 => ∃ jj m' : Nat, jj ≤ a.l.length ∧ jj ≤ 41 ∧ m' ≤ 300000000000000 ∧ j = .int .i64 jj ∧ n = .int .i64 m' ∧ Hd (Dr wo w2 ∧ (m' ≤ 6000 → m' = totR l k + totM a.l jj))) (fun _ j _ => 51 - (RowKit.intOf j).toNat)
        case atStart => exact ⟨0, m, by omega, by omega, by omega, rfl, rfl, hd ⟨Dr.refl _, fun q => by rw [(HR.out.2 q).1]; simp [totM]⟩⟩
        case round =>
          obtain ⟨jj, m', hj, hj41, hm', rfl, rfl, HS⟩ := hrel
          clear hc
          have hc := HS.out.1.cell HC0.out
          by_cases hlt : jj < a.l.length ∧ jj ≤ 40 ∧ m' ≤ 6000
          · obtain ⟨g1, g2, g3⟩ := hlt
            obtain ⟨b2, off2, hA2⟩ := HX.out.1.addr (by intro h; rw [h] at g1; simp at g1)
            obtain ⟨c, hcc⟩ : ∃ c, a.l[jj]? = some c := ⟨_, List.getElem?_eq_getElem g1⟩
            have x0 := (HR.out.1.trans HS.out.1).cell (HX.out.1.cell b2 off2 jj 0 c _ hA2 hcc rfl)
            have x1 := (HR.out.1.trans HS.out.1).cell (HX.out.1.cell b2 off2 jj 1 c _ hA2 hcc rfl)
            simp only [← Nat.add_assoc, Nat.add_zero] at x0 x1
            rw [hA2] at hc
            obtain ⟨hs1, hs2⟩ := HX.out.2 c (List.mem_of_getElem? hcc)
            have HU := hd (totM_succ a.l jj c hcc)
            clear hcc hA2
            go_wp2_with (fail)
            go_quiet (fail)
            go_wp2_with (fail)
            go_roundw
            case rel => exact ⟨jj + 1, m' + 1 + c.key.size + c.val.size, by omega, by omega, by omega, by go_num, by go_num, hd ⟨HS.out.1.more _, fun q => by rw [HU.out]; have := HS.out.2 g3; unfold szM; omega⟩⟩
            case measure => simp [RowKit.intOf]; omega
          · by_cases g1 : jj < a.l.length
            · by_cases g2 : jj ≤ 40
              · have g3 : ¬ m' ≤ 6000 := fun h => hlt ⟨g1, g2, h⟩
                clear hlt
                by_cases g4 : a.l.length ≤ 40
                · go_wp2_with (fail)
                  go_roundw
                  case rel => exact ⟨k + 1, m', by omega, by omega, by omega, by go_num, rfl, hd ⟨HR.out.1.trans HS.out.1, fun q => absurd q g3⟩⟩
                  case measure => simp [RowKit.intOf]; omega
                · go_wp2_with (go_at_call 10; refine (LV.out _ (HR.out.1.trans HS.out.1).below).mono ?_; rintro e w2 ⟨rfl, hl⟩)
                  go_ret
                  exact ⟨rfl, hl⟩
              · clear hlt
                go_wp2_with (go_at_call 10; refine (LV.out _ (HR.out.1.trans HS.out.1).below).mono ?_; rintro e w2 ⟨rfl, hl⟩)
                go_ret
                exact ⟨rfl, hl⟩
            · obtain rfl : jj = a.l.length := by omega
              clear hlt
              by_cases g2 : a.l.length ≤ 40
              · go_wp2_with (fail)
                go_roundw
                case rel =>
                  refine ⟨k + 1, m', by omega, by omega, by omega, by go_num, rfl, hd ⟨HR.out.1.trans HS.out.1, fun q => ⟨by rw [HT.out]; exact HS.out.2 q, fun x hx => ?_⟩⟩⟩
                  rw [HTK.out] at hx
                  rcases List.mem_append.1 hx with hx | hx
                  · exact (HR.out.2 h3).2 x hx
                  · rw [List.mem_singleton.1 hx]; exact g2
                case measure => simp [RowKit.intOf]; omega
              · go_wp2_with (go_at_call 10; refine (LV.out _ (HR.out.1.trans HS.out.1).below).mono ?_; rintro e w2 ⟨rfl, hl⟩)
                go_ret
                exact ⟨rfl, hl⟩
      · by_cases h1 : k < l.length
        · by_cases h2 : k ≤ 40
          · have h3 : ¬ m ≤ 6000 := fun h => hlt ⟨h1, h2, h⟩
            clear hlt
            go_wp2_with (fail)
            go_meet
            exact ⟨m, rfl, by omega, hd ⟨HR.out.1, fun _ q => absurd q h3⟩⟩
          · clear hlt
            go_wp2_with (fail)
            go_meet
            exact ⟨m, rfl, by omega, hd ⟨HR.out.1, fun q => by omega⟩⟩
        · obtain rfl : k = l.length := by omega
          clear hlt
          go_wp2_with (fail)
          go_meet
          exact ⟨m, rfl, by omega, hd ⟨HR.out.1, fun _ q => by have := HR.out.2 q; rwa [List.take_length] at this⟩⟩
  obtain ⟨m, rfl, hm, HQ⟩ := hcut
  by_cases h6 : l.length ≤ 40
  case neg =>
    go_wp2_with (go_at_call 10; refine (LV.out _ HQ.out.1.below).mono ?_; rintro e w2 ⟨rfl, hl⟩)
    go_ret
    exact ⟨rfl, hl⟩
  by_cases h7 : m ≤ 6000
  case neg =>
    go_wp2_with (go_at_call 10; refine (LV.out _ HQ.out.1.below).mono ?_; rintro e w2 ⟨rfl, hl⟩)
    go_ret
    exact ⟨rfl, hl⟩
  obtain ⟨rfl, hall⟩ := HQ.out.2 h6 h7
  obtain ⟨s1, L1, o1, c1, f1, p1, e1, _, l1, m1, u1⟩ := shelf_new 4194304 (by omega) (by omega)
  have HN := hd (own_new 4194304 w wc HQ.out.1.below (by decide) (by decide))
  have HO := hd (fun (w' : World) (b : Nat) (fp : List Nat) (h : MineL w w' b (RS.new 4194304) fp) => own_sopen (p := []) HG.out h o1 f1 p1 rfl (by decide))
  have HALL := hd hall
  have HC1 := hd c1
  have HE1 := hd e1
  clear o1 f1 p1 c1 hall e1
  go_wp2_with (go_at_call 12; refine (num5_any _ _).mono ?_; rintro e w' ⟨rfl, rfl⟩)
  refine HN.out.mono ?_
  rintro e w2 ⟨b, fp1, rfl, hm1, _⟩
  have HM1 := hd hm1
  clear hm1 HN
  go_wp2_with (go_at_call 12; refine (num5_any _ _).mono ?_; rintro e w' ⟨rfl, rfl⟩)
  refine (HO.out _ b fp1 HM1.out).mono ?_
  rintro e w3 ⟨fp2, sb, mb, lb, rfl, hs, _, _⟩
  have HP0 : Hd (PkAt w w3 b sb mb lb l 0 s1 L1 [] [] fp2) := hd ⟨hs, HC1.out, by simp, l1, m1, HE1.out, by omega, Nat.zero_le _, Nat.zero_le _⟩
  clear hs HM1 HO HC1 HE1
  go_wp2_with (go_at_call 12; refine (num5_any _ _).mono ?_; rintro e w' ⟨rfl, rfl⟩)
  go_loopw [10] (fun i wr => ∃ (k : Nat) (s : RS) (L : LS) (p : Sh) (recs : List Txt) (fp : List Nat), k ≤ l.length ∧ i = .int .i64 k ∧ Hd (PkAt w wr b sb mb lb l k s L p recs fp)) (fun i _ => l.length - (RowKit.intOf i).toNat)
  case atStart => exact ⟨0, s1, L1, [], [], fp2, by omega, rfl, HP0⟩
  case round =>
    obtain ⟨k, s, L, p, recs, fp, hk, rfl, HP⟩ := hrel
    by_cases hlt : k < l.length
    · obtain ⟨b2, off2, hA2⟩ := HA.out.addr (by intro h; rw [h] at hlt; simp at hlt)
      obtain ⟨a, ha⟩ : ∃ a, l[k]? = some a := ⟨_, List.getElem?_eq_getElem hlt⟩
      have hc0 := HA.out.cell b2 off2 k a hA2 ha
      have hc : wr.cell? ⟨b2, off2 + k, none⟩ = some (.slice a.A a.l.length a.c) := (HP.out.at_.below.cell (World.block_lt_of_cell? w _ hc0)).trans hc0
      obtain ⟨hx1, _, _, hac⟩ := HA.out.row a (List.mem_of_getElem? ha)
      have HNX := hd (HP.out.next HG.out (by omega) h7 a ha (HALL.out a (List.mem_of_getElem? ha)) hx1 hac)
      subst hA2
      clear ha hc0 hx1
      go_wp2_with (fail)
      refine HNX.out.mono ?_
      rintro e w4 ⟨er, s', L', p', recs', fp', rfl, hp⟩
      have HP' := hd hp
      clear hp HNX
      go_wp2_with (fail)
      go_roundw
      case rel => exact ⟨k + 1, s', L', p', recs', fp', by omega, by go_num, HP'⟩
      case measure => simp [RowKit.intOf]; omega
    · obtain rfl : k = l.length := by omega
      have hsz := HP.out.size
      have hco := HP.out.cost
      have hus := HP.out.used
      have HV := hd HP.out.clean.good.2
      have HSC := hd (own_scan0 HP.out.at_ (by omega) HV.out)
      go_wp2_with (fail)
      refine HSC.out.mono ?_
      rintro e w5 ⟨va, rfl, hra, hb5⟩
      have HRA := hd hra
      have HS5 := hd (HP.out.at_.below_ hb5)
      clear hra hb5 HSC
      rcases HP.out.clean.pack (by omega) (show costP p ≤ 500000 by omega) (by rw [free_eq, HP.out.room]; have : (costC (packC p) : Int) = (costP p : Int) := rfl; omega) (by rw [HP.out.ep]; decide) with ⟨s6, L6, hpk, c6, e6, t6, m6, u6, l6⟩ | ⟨q, _⟩
      case inr => exact absurd HP.out.left q
      have HPK := hd (sh_pack HG.out HS5.out HP.out.clean.lok (by omega) HV.out (show costP p ≤ 4194304 by omega) hpk)
      obtain ⟨s7, L7, n7, o7, f7, p7, c7, e7, t7, l7, m7, u7⟩ := c6.reopen 0 0 0
      have HO7 := hd (fun (w' : World) (fp : List Nat) (h : MineL w w' b (s6.crash 0 0 0) fp) => own_sopen HG.out h o7 f7 p7 c7.has (by simp))
      have HT6 := hd t6
      have HT7 := hd (show L7.recs = 0 from t7)
      have HPO := hd (And.intro hsz HV.out)
      clear hpk c6 e6 t6 m6 u6 l6 o7 f7 p7 c7 e7 t7 l7 m7 u7 HP
      obtain ⟨Aa, ca, rfl, _, _⟩ := HRA.out.reads
      go_wp2_with (go_at_call 12; refine (num5_any _ _).mono ?_; rintro e w' ⟨rfl, rfl⟩)
      refine HPK.out.mono ?_
      rintro e w6 ⟨rfl, hq6⟩
      obtain ⟨fp6, hs6, hr6⟩ := HRA.out.post hq6
      have HS6 := hd hs6
      have HR6 := hd hr6
      clear hq6 hs6 hr6 HPK HRA HS5
      have HRC := hd (sh_records HS6.out)
      rw [HT6.out] at HRC
      have HSC6 := hd (own_scan0 HS6.out (by omega) HPO.out.2)
      go_wp2_with (first | (go_at_call 12; refine (num5_any _ _).mono ?_; rintro e w' ⟨rfl, rfl⟩) | (go_at_call 21; refine HRC.out.mono ?_; rintro e w' ⟨rfl, rfl⟩) | (go_at_call 15; refine HSC6.out.mono ?_; rintro e w7 ⟨vb, rfl, hrb, hb7⟩; have HRB := hd hrb; have HS7 := hd (HS6.out.below_ hb7); have HR7 := hd (HR6.out.below hb7); clear hrb hb7))
      refine (psame_call HRB.out HR7.out (by omega)).mono ?_
      rintro e w8 ⟨rfl, n8, rfl⟩
      rw [decide_eq_true (rfl : p = p)]
      have HS8 := hd (HS7.out.drewN n8)
      have HR8 := hd (HR7.out.below (below_drewN0 w7 n8))
      clear HS7 HR7 HRB HS6 HR6 HSC6 HRC
      generalize w7.drewN n8 = w8 at *
      go_wp2_with (fail)
      refine (own_scrash HS8.out 0 0 0).mono ?_
      rintro e w9 ⟨rfl, hq9⟩
      obtain ⟨fp9, hs9, hr9⟩ := HR8.out.post hq9
      have HS9 := hd hs9
      have HR9 := hd hr9
      clear hq9 hs9 hr9 HS8 HR8
      go_wp2_with (fail)
      refine (HO7.out _ fp9 HS9.out.mine).mono ?_
      rintro e w10 ⟨fp10, tb, nb, kb, rfl, hs10, hc10, hf10⟩
      have HS10 := hd hs10
      have HR10 := hd (HR9.out.reopen hc10 hf10)
      clear hs10 hc10 hf10 HS9 HR9 HO7
      have HSC10 := hd (own_scan0 HS10.out (by omega) HPO.out.2)
      go_wp2_with (first | (go_at_call 12; refine (num5_any _ _).mono ?_; rintro e w' ⟨rfl, rfl⟩) | (go_at_call 15; refine HSC10.out.mono ?_; rintro e w11 ⟨vc, rfl, hrc, hb11⟩; have HRC := hd hrc; have HS11 := hd (HS10.out.below_ hb11); have HR11 := hd (HR10.out.below hb11); clear hrc hb11))
      refine (psame_call HRC.out HR11.out (by omega)).mono ?_
      rintro e w12 ⟨rfl, n12, rfl⟩
      rw [decide_eq_true (rfl : p = p)]
      have HS12 := hd (HS11.out.drewN n12)
      clear HS11 HR11 HRC HS10 HR10 HSC10
      generalize w11.drewN n12 = w12 at *
      have HR12 := hd (sh_records HS12.out)
      rw [HT7.out] at HR12
      have HL12 := hd (sh_len HS12.out)
      go_wp2_with (first | (go_at_call 21; refine HR12.out.mono ?_; rintro e w' ⟨rfl, rfl⟩) | (go_at_call 17; refine HL12.out.mono ?_; rintro e w' ⟨rfl, rfl⟩) | (go_at_call 10; refine (LV.out _ HS12.out.below).mono ?_; rintro e w13 ⟨rfl, hl⟩))
      go_ret
      exact ⟨rfl, hl⟩
/-- As the row wants it. -/
theorem packs_walk {H : Type} {enc : TypeId × Value → H} (W : World) (hG : Gl W) (v : Value) (ho : ∃ A n c, v = .slice A n c) {d : DataW H} {p : List MemPlace} (h : DataW.Trod enc Tryz.prog W 0 (fun _ => true) true 53 v d p) (hl : Light Tryz.prog 53 d) :
    Calls Tryz.prog 5 #[v] W fun e w' => e = .returned (.bool true) ∧ Below W.heap.size W w' := by
  obtain ⟨A, l, c, rfl, hn, hA⟩ := open_srs ho h hl
  exact packs_core W hG A c l hA hn
end Go.Proofs.YtopajmbblemopaaGreatDoor
