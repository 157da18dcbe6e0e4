/-
  Lemmas, joined of the texts SS0 SS1 SS2 XSh2 SP4 SS3 XSs0 XSs1 XSs2 XSs SQ0.
-/
import Derived.Test.YtopajmbblemopaaGreatDoorMB20
import Derived.Test.YtopajmbblemopaaGreatDoorMB22
import Derived.Test.YtopajmbblemopaaGreatDoorMB23
import Derived.Test.YtopajmbblemopaaGreatDoorMB24
import Derived.Deep.RegionHeld
import Derived.Test.YtopajmbblemopaaGreatDoorMB18
import Derived.Test.YtopajmbblemopaaGreatDoorMB10
import Derived.Test.YtopajmbblemopaaGreatDoorProg
import Derived.Test.YtopajmbblemopaaGreatDoorMB1
import Derived.Below
import Derived.Deep.Draws
import Derived.Deep.AppendLies
import Derived.Maps.AppendAt
import Derived.OwnWalk
import Derived.Laws.BytesArg
import Derived.Laws.MakeOwn
import Derived.Laws.OwnMore
import Derived.Deep.OwnRows
import Derived.Tactics
import Derived.Lib.ConvBytes
import Derived.Laws.Slices
import Derived.WalkKit
import Derived.KernelRfl
import Derived.RowKit3
import Derived.Deep.LoopGhost
import Derived.Deep.QuietTactic
import Derived.BigQuiet
import Derived.WideLaws
import Derived.Deep.DeepCutAuto
import Derived.Deep.CutBlock
import Derived.Deep.RegionHeld3
import Derived.Laws.Rows
import Derived.Lib.AppendStr
import Derived.ArgAppend
import Derived.Laws.IdiomCopy
import Derived.OrdersHeld
import Derived.Laws.BitsLemmas
import Derived.RowKit
import Derived.Test.YtopajmbblemopaaGreatDoorMB17
import Derived.Test.YtopajmbblemopaaGreatDoorMB16
import Derived.Test.YtopajmbblemopaaGreatDoorWWords
import Derived.Test.YtopajmbblemopaaGreatDoorWLast
import Derived.Test.YtopajmbblemopaaGreatDoorWTab
import Derived.Test.YtopajmbblemopaaGreatDoorWFour
import Derived.Test.YtopajmbblemopaaGreatDoorWQPut
import Derived.Test.YtopajmbblemopaaGreatDoorWApart
import Derived.Test.YtopajmbblemopaaGreatDoorWArr
import Derived.Test.YtopajmbblemopaaGreatDoorWZeros
import Derived.Test.YtopajmbblemopaaGreatDoorWFoot
import Derived.Test.YtopajmbblemopaaGreatDoorWKept
import Derived.Test.YtopajmbblemopaaGreatDoorWShare
import Derived.Test.YtopajmbblemopaaGreatDoorWN
import Derived.Test.YtopajmbblemopaaGreatDoorWFootNe
import Derived.Test.YtopajmbblemopaaGreatDoorWAt
import Derived.Test.YtopajmbblemopaaGreatDoorWEqStruct
import Derived.Test.YtopajmbblemopaaGreatDoorWRepsOne
import Derived.Test.YtopajmbblemopaaGreatDoorWInv
import Derived.Test.YtopajmbblemopaaGreatDoorWInvWords
import Derived.Test.YtopajmbblemopaaGreatDoorWGuard
import Derived.Test.YtopajmbblemopaaGreatDoorWNEv
import Derived.Test.YtopajmbblemopaaGreatDoorWMore
namespace Go.Proofs.YtopajmbblemopaaGreatDoor
set_option linter.unusedVariables false
set_option linter.unusedSimpArgs false
open Go.RowKit Go.Maps Go.WideMaps Go.Proofs.YtopajmbblemopaaGreatDoor.XSh Go.Proofs.YtopajmbblemopaaGreatDoorW.PrintWords Go.Proofs.YtopajmbblemopaaGreatDoorW.PrintLast Go.Proofs.YtopajmbblemopaaGreatDoorW.PrintMore
/-- The blocks of a shelf. -/
def Foot (sb mb lb : Nat) (fp : List Nat) (k : Nat) : Prop := k = sb ∨ k = mb ∨ k = lb ∨ k ∈ fp
structure ShAt (w0 w : World) (b sb mb lb : Nat) (s : RS) (L : LS) (p : Sh) (fp : List Nat) : Prop where
  mine : MineL w0 w b s fp
  led : Lg w0 w b fp lb L
  blk : Blk w sb [.map (some mb), .pointer (some ⟨lb, 0, none⟩)] 83
  map : MapAt w mb p
  outs : sb ∉ fp
  outm : mb ∉ fp
  lows : w0.heap.size ≤ sb
  lowm : w0.heap.size ≤ mb
section
variable {w0 w w' : World} {b sb mb lb : Nat} {s : RS} {L : LS} {p : Sh} {fp : List Nat}
theorem ShAt.c0 (h : ShAt w0 w b sb mb lb s L p fp) : w.cell? ⟨sb, 0, none⟩ = some (.map (some mb)) := (h.blk.cell 0).trans rfl
theorem ShAt.c1 (h : ShAt w0 w b sb mb lb s L p fp) : w.cell? ⟨sb, 1, none⟩ = some (.pointer (some ⟨lb, 0, none⟩)) := (h.blk.cell 1).trans rfl
theorem ShAt.nsm (h : ShAt w0 w b sb mb lb s L p fp) : sb ≠ mb := cell_not_map h.map h.c0
theorem ShAt.nlm (h : ShAt w0 w b sb mb lb s L p fp) : lb ≠ mb := cell_not_map h.map (v := .pointer (some ⟨b, 0, none⟩)) ((h.led.blk.cell 0).trans rfl)
theorem ShAt.nsl (h : ShAt w0 w b sb mb lb s L p fp) : sb ≠ lb := by
  rintro rfl
  have h1 := h.led.blk.cell 4
  rw [h.blk.cell 4] at h1
  cases h1
theorem ShAt.low (h : ShAt w0 w b sb mb lb s L p fp) : ∀ k, Foot sb mb lb fp k → w0.heap.size ≤ k := by
  rintro k (rfl | rfl | rfl | hk)
  · exact h.lows
  · exact h.lowm
  · exact h.led.low
  · exact h.mine.low k hk
theorem ShAt.lt (h : ShAt w0 w b sb mb lb s L p fp) : ∀ k, Foot sb mb lb fp k → k < w.heap.size := by
  rintro k (rfl | rfl | rfl | hk)
  · exact h.blk.lt
  · exact h.map.lt
  · exact h.led.blk.lt
  · exact h.mine.lt k hk
/-- What others do leaves it. -/
theorem ShAt.chg {S : Nat → Prop} (h : ShAt w0 w b sb mb lb s L p fp) (c : Chg S w w') (hlow : ∀ k, S k → w0.heap.size ≤ k) (hS : ∀ k, S k → ¬ Foot sb mb lb fp k) : ShAt w0 w' b sb mb lb s L p fp :=
  ⟨⟨h.mine.below.trans (c.below h.mine.below.size hlow), h.mine.at_.chg c (fun k hk q => hS k q (.inr (.inr (.inr hk)))), h.mine.low⟩, ⟨h.led.blk.chg c (fun q => hS _ q (.inr (.inr (.inl rfl)))), h.led.out, h.led.low⟩,
    h.blk.chg c (fun q => hS _ q (.inl rfl)), h.map.chg c (fun q => hS _ q (.inr (.inl rfl))), h.outs, h.outm, h.lows, h.lowm⟩
theorem ShAt.below_ (h : ShAt w0 w b sb mb lb s L p fp) (hb : Below w.heap.size w w') : ShAt w0 w' b sb mb lb s L p fp := h.chg (Chg.of_below hb (fun _ => False)) (fun _ q => q.elim) (fun _ q => q.elim)
theorem ShAt.drewN (h : ShAt w0 w b sb mb lb s L p fp) (n : Nat) : ShAt w0 (w.drewN n) b sb mb lb s L p fp := h.below_ (below_drewN0 w n)
theorem ShAt.below (h : ShAt w0 w b sb mb lb s L p fp) : Below w0.heap.size w0 w := h.mine.below
/-- A call on it: what it leaves. -/
def ShPost (w0 w w' : World) (b sb mb lb : Nat) (fp : List Nat) (s : RS) (L : LS) (p : Sh) : Prop := ∃ fp', ShAt w0 w' b sb mb lb s L p fp' ∧ Chg (Foot sb mb lb fp) w w' ∧ (∀ k ∈ fp', k ∈ fp ∨ w.heap.size ≤ k)
theorem ShPost.c1 (h : ShPost w0 w w' b sb mb lb fp s L p) : w'.cell? ⟨sb, 1, none⟩ = some (.pointer (some ⟨lb, 0, none⟩)) := by
  obtain ⟨fp', a, _⟩ := h
  exact a.c1
theorem ShPost.refl (h : ShAt w0 w b sb mb lb s L p fp) (hb : Below w.heap.size w w') : ShPost w0 w w' b sb mb lb fp s L p := ⟨fp, h.below_ hb, Chg.of_below hb _, fun _ q => .inl q⟩
theorem Foot.step {fp' : List Nat} (hf : ∀ k ∈ fp', k ∈ fp ∨ w.heap.size ≤ k) : ∀ k, Foot sb mb lb fp' k → Foot sb mb lb fp k ∨ w.heap.size ≤ k := by
  rintro k (q | q | q | q)
  · exact .inl (.inl q)
  · exact .inl (.inr (.inl q))
  · exact .inl (.inr (.inr (.inl q)))
  · exact (hf k q).elim (fun r => .inl (.inr (.inr (.inr r)))) .inr
theorem ShPost.first {w1 : World} {s' : RS} {L' : LS} {p' : Sh} (hb : Below w.heap.size w w1) (q : ShPost w0 w1 w' b sb mb lb fp s' L' p') : ShPost w0 w w' b sb mb lb fp s' L' p' := by
  obtain ⟨fp', a, c, f⟩ := q
  exact ⟨fp', a, (Chg.of_below hb (Foot sb mb lb fp)).trans c (fun _ q => .inl q), fun k hk => (f k hk).elim .inl (fun q => .inr (Nat.le_trans hb.size q))⟩
/-- The ledger has been called. -/
theorem ShAt.led_post {s' : RS} {L' : LS} {fp' : List Nat} (h : ShAt w0 w b sb mb lb s L p fp) (hm : MineL w0 w' b s' fp') (hl : Lg w0 w' b fp' lb L') (c : Chg (fun k => k = lb ∨ k ∈ fp) w w') (f : ∀ k ∈ fp', k ∈ fp ∨ w.heap.size ≤ k) : ShAt w0 w' b sb mb lb s' L' p fp' := by
  have hsl := h.nsl
  have hlm := h.nlm
  have l1 := h.blk.lt
  have l2 := h.map.lt
  have n1 : ¬ (sb = lb ∨ sb ∈ fp) := fun q => q.elim hsl h.outs
  have n2 : ¬ (mb = lb ∨ mb ∈ fp) := fun q => q.elim (fun r => hlm r.symm) h.outm
  refine ⟨hm, hl, h.blk.chg c n1, h.map.chg c n2, fun q => ?_, fun q => ?_, h.lows, h.lowm⟩
  · exact (f _ q).elim h.outs (fun r => by omega)
  · exact (f _ q).elim h.outm (fun r => by omega)
theorem led_foot : ∀ k, (k = lb ∨ k ∈ fp) → Foot sb mb lb fp k := fun _ q => q.elim (fun r => .inr (.inr (.inl r))) (fun r => .inr (.inr (.inr r)))
/-- The reel has been called. -/
theorem ShAt.reel {s' : RS} (h : ShAt w0 w b sb mb lb s L p fp) (q : RPost w b fp s' w') : ShPost w0 w w' b sb mb lb fp s' L p := by
  obtain ⟨fp', hm, hk, c, f⟩ := h.mine.next q
  exact ⟨fp', h.led_post hm (hk _ _ h.led) (c.mono fun _ _ r => .inr r) f, c.mono (fun _ _ r => .inr (.inr (.inr r))), f⟩
theorem sh_len (h : ShAt w0 w b sb mb lb s L p fp) : Calls Tryz.prog 17 #[.pointer (some ⟨sb, 0, none⟩)] w fun e w' => e = .returned (.int .i64 p.length) ∧ w = w' := len_any sb mb p w h.c0 h.map
theorem sh_scan (h : ShAt w0 w b sb mb lb s L p fp) (f t : ByteArray) (hp : p.length ≤ 1000000) (hk : ∀ a ∈ p, a.1.length ≤ maxLen) :
    Calls Tryz.prog 15 #[.pointer (some ⟨sb, 0, none⟩), .string f, .string t] w fun e w' => ∃ v B, e = .returned v ∧ w.heap.size ≤ B ∧ w'.ownsRow B 47 2 v (scanS (bsL f) (bsL t) p).length (prsV (scanS (bsL f) (bsL t) p)) ∧ Below w.heap.size w w' := scan_any sb mb p f t w h.c0 h.map hp hk
theorem sh_records (h : ShAt w0 w b sb mb lb s L p fp) : Calls Tryz.prog 21 #[.pointer (some ⟨sb, 0, none⟩)] w fun e w' => e = .returned (.int .i64 L.recs) ∧ w = w' := by
  have hc := h.c1
  have HL := hd (h.led.led h.mine)
  clear h
  go_enter Tryz.func21, Tryz.ntmps21
  go_wp2_with (go_at_call 43; refine (Tryz.ledRecords lb b s L fp fp _ _ HL.out).mono ?_; rintro e w' ⟨rfl, rfl⟩)
  go_ret
  exact ⟨rfl, rfl⟩
theorem sh_broken (h : ShAt w0 w b sb mb lb s L p fp) : Calls Tryz.prog 23 #[.pointer (some ⟨sb, 0, none⟩)] w fun e w' => e = .returned (.bool L.broken) ∧ w = w' := by
  have hc := h.c1
  have HL := hd (h.led.led h.mine)
  clear h
  go_enter Tryz.func23, Tryz.ntmps23
  go_wp2_with (go_at_call 44; refine (broken_led lb b s L fp fp _ _ HL.out).mono ?_; rintro e w' ⟨rfl, rfl⟩)
  go_ret
  exact ⟨rfl, rfl⟩
end
end Go.Proofs.YtopajmbblemopaaGreatDoor
namespace Go.Proofs.YtopajmbblemopaaGreatDoor
set_option linter.unusedVariables false
set_option linter.unusedSimpArgs false
open Go.RowKit Go.Maps Go.WideMaps Go.Proofs.YtopajmbblemopaaGreatDoor.XSh Go.Proofs.YtopajmbblemopaaGreatDoorW.PrintWords Go.Proofs.YtopajmbblemopaaGreatDoorW.PrintLast Go.Proofs.YtopajmbblemopaaGreatDoorW.PrintMore
def s51 (c : MC) : S51 := ⟨c.key, c.val, c.gone⟩
theorem s51_toC (l : List MC) : (l.map s51).map toC = l.map MC.toC := by
  rw [List.map_map]
  rfl
theorem C_of_ch {w : World} {A : Option Addr} {l : List MC} (h : ChAt w A l) (hl : l.length ≤ 1000000) : Kd.C k51 w A l.length (l.map s51) := by
  refine ⟨List.length_map _, by omega, fun h0 => ?_⟩
  obtain ⟨b, off, rfl⟩ := h.addr (fun q => by rw [q] at h0; simp at h0)
  refine ⟨⟨b, off, none⟩, rfl, fun j p hp => ?_⟩
  rw [List.getElem?_map] at hp
  cases hc : l[j]? with
  | none => rw [hc] at hp; cases hp
  | some c =>
    rw [hc] at hp
    injection hp with hp
    subst hp
    refine ⟨c.cells, rfl, k51_mk w (s51 c), fun i u hu => ?_⟩
    have h1 := h.cell b off j i c u rfl hc hu
    have h2 : (⟨b, off, none⟩ : Addr).add (j * 3 + i) = ⟨b, off + (j * 3 + i), none⟩ := by
      unfold Addr.add
      split
      · rename_i q
        rw [q]
        rfl
      · rfl
    have h3 : k51.sz = 3 := rfl
    rw [h3, h2]
    exact h1
theorem all_of {l : List MC} (h : ∀ c ∈ l, isC c.toC = true) : ∀ x ∈ l.map MC.toC, isC x = true := by
  intro x hx
  obtain ⟨c, hc, rfl⟩ := List.mem_map.1 hx
  exact h c hc
theorem ch_text {w : World} {A : Option Addr} {c : Nat} {l : List MC} (hA : ChAt w A l) (hc : l.length ≤ c) (hG : Gl w) (hl : l.length ≤ 1000000) (hv : ∀ x ∈ l, isC x.toC = true) (hb : (textC (l.map MC.toC)).length ≤ 140737488351232) :
    Calls Tryz.prog 39 #[.slice A l.length c] w fun e w' => e = .returned (.string (str (textC (l.map MC.toC)))) ∧ Below w.heap.size w w' := by
  have e : (l.map s51).length = l.length := List.length_map _
  have h := text_call (w := w) (A := A) (c := c) (l := l.map s51) (by rw [e]; exact C_of_ch hA hl) (by omega) hG (by omega) (fun x hx => by
    obtain ⟨y, hy, rfl⟩ := List.mem_map.1 hx
    exact hv y hy) (by rw [s51_toC]; exact hb)
  rw [e, s51_toC] at h
  exact h
section
variable {w0 w w' : World} {b sb mb lb : Nat} {s : RS} {L : LS} {p : Sh} {fp : List Nat}
set_option maxHeartbeats 800000 in
theorem sh_commit (hG : Gl w0) (h : ShAt w0 w b sb mb lb s L p fp) (hO : L.Ok) {A : Option Addr} {l : List MC} {c : Nat} (hA : ChAt w A l) (hc : l.length ≤ c) (hl : l.length ≤ 4096) (hsep : l ≠ [] → ∀ k off, A = some ⟨k, off, none⟩ → ¬ Foot sb mb lb fp k) (hp : p.length ≤ 1000000) (ht : costC (l.map MC.toC) ≤ 4194304) {s' : RS} {L' : LS} {p' : Sh} {er : Int} (hm : commitM s L p (l.map MC.toC) = (s', L', p', er)) :
    Calls Tryz.prog 14 #[.pointer (some ⟨sb, 0, none⟩), .slice A l.length c] w fun r w' => r = .returned (.int .i64 er) ∧ ShPost w0 w w' b sb mb lb fp s' L' p' := by
  have hGw := gl_below hG h.below
  have HB := hd (has_bad A l c w hA (by omega) hGw)
  have HA := hd hA
  have HS := hd h
  have HM := hd hm
  have c1 := h.c1
  clear hA hm hGw h
  go_enter Tryz.func14, Tryz.ntmps14
  go_wp2_with (fail)
  refine HB.out.mono ?_
  rintro e w1 ⟨r, rfl, hr, hb⟩
  have HR := hd hr
  have hc1 := (hb.cell (World.block_lt_of_cell? w _ c1)).trans c1
  have HB1 := hd hb
  clear hr hb HB c1
  cases r with
  | true =>
    have hm := HM.out
    have hn : ¬ ∀ x ∈ l, isC x.toC = true := fun q => by have := HR.out.2 q; cases this
    have he : (l.map MC.toC).all isC = false := by
      cases hq : (l.map MC.toC).all isC with
      | false => rfl
      | true => exact absurd (fun x hx => List.all_eq_true.1 hq _ (List.mem_map_of_mem hx)) hn
    unfold commitM at hm
    rw [if_pos he] at hm
    cases hm
    clear hn he
    go_wp2_with (fail)
    go_ret
    exact ⟨rfl, ShPost.refl HS.out HB1.out⟩
  | false =>
    have hv := HR.out.1 rfl
    have hm := HM.out
    unfold commitM at hm
    rw [if_neg (all_is (all_of hv))] at hm
    rcases Nat.eq_zero_or_pos l.length with h0 | h0
    · have hn : l.map MC.toC = [] := by rw [List.length_eq_zero_iff.1 h0]; rfl
      rw [if_pos hn] at hm
      cases hm
      have HV := hd hv
      clear hv hn
      rw [h0]
      clear h0
      go_wp2_with (fail)
      go_ret
      exact ⟨rfl, ShPost.refl HS.out HB1.out⟩
    · have hn : l.map MC.toC ≠ [] := fun q => by
        have := congrArg List.length q
        rw [List.length_map, List.length_nil] at this
        omega
      rw [if_neg hn, if_neg (by rw [List.length_map]; omega)] at hm
      have htl := text_len (all_of hv)
      have hsz : (str (textC (l.map MC.toC))).size ≤ 4194304 := by rw [str_size]; omega
      obtain ⟨s2, L2, e2, ha⟩ : ∃ s2 L2 e2, addM s L (textC (l.map MC.toC)) = (s2, L2, e2) := ⟨_, _, _, rfl⟩
      have HT : Hd (∀ wq, Below w.heap.size w wq → Calls Tryz.prog 39 #[.slice A l.length c] wq fun e w' => e = .returned (.string (str (textC (l.map MC.toC)))) ∧ Below w.heap.size w w') := hd fun wq hb =>
        (ch_text (w := wq) (A := A) (c := c) (l := l) (HA.out.chg (Chg.of_below hb (fun _ => False)) (fun _ _ _ q => q)) hc (gl_below hG (HS.out.below_ hb).below) (by omega) hv (by omega)).mono fun e w' ⟨h1, h2⟩ => ⟨h1, hb.trans (h2.mono hb.size)⟩
      have HAD : Hd (∀ wq, Below w.heap.size w wq → Calls Tryz.prog 38 #[.pointer (some ⟨lb, 0, none⟩), .string (str (textC (l.map MC.toC)))] wq fun e w' => e = .returned (.int .i64 e2) ∧ ShPost w0 w w' b sb mb lb fp s2 L2 p) := hd fun wq hb => by
        have hS2 := HS.out.below_ hb
        refine (own_add hG hS2.mine hS2.led hO (str (textC (l.map MC.toC))) hsz s2 L2 e2 (by rw [bs_of]; exact ha)).mono ?_
        rintro e w3 ⟨rfl, fp3, hm3, hl3, hch, hf⟩
        exact ⟨rfl, ShPost.first hb ⟨fp3, hS2.led_post hm3 hl3 hch hf, hch.mono (S' := Foot sb mb lb fp) (fun k _ q => led_foot k q), hf⟩⟩
      have HC : Hd (∀ wq, Below w.heap.size w wq → wq.cell? ⟨sb, 1, none⟩ = some (.pointer (some ⟨lb, 0, none⟩))) := hd fun wq hb => (HS.out.below_ hb).c1
      have HBD : Hd (∀ n, Below w.heap.size w (w1.drewN n)) := hd fun n => HB1.out.trans ((below_drewN0 w1 n).mono HB1.out.size)
      rw [ha] at hm
      have HM2 := hd hm
      clear hm hv hn hsz htl HM ha hc1
      go_upto_region 9 with (fail)
      go_region_held (fun w' => w'.cell? ⟨sb, 1, none⟩ = some (.pointer (some ⟨lb, 0, none⟩))) (first | exact HC.out _ (HBD.out 1) | exact HC.out _ hb2 | exact d1) (first | (go_at_call 39; refine (HT.out _ (HBD.out 1)).mono ?_; rintro e w2 ⟨rfl, hb2⟩) | (go_at_call 38; refine (HAD.out _ hb2).mono ?_; rintro e w3 ⟨rfl, hp3⟩; have d1 := hp3.c1; have HP3 := hd hp3; clear hp3))
      all_goals clear d1
      all_goals
        obtain ⟨fp3, HP⟩ := HP3.out
        have HS3 := hd HP.1
        have HC3 := hd HP.2.1
        have HF := hd HP.2.2
        clear HP HP3 HT HAD HC HBD
        by_cases he : e2 = 0
        · subst he
          have hm := HM2.out
          rw [if_pos rfl] at hm
          cases hm
          have HD := hd (do_any sb mb p A l c w3 HS3.out.c0 HS3.out.map (HA.out.chg HC3.out (fun k off q => hsep (fun z => by rw [z] at h0; simp at h0) k off q)) (by omega) (by omega))
          go_wp2_with (fail)
          refine HD.out.mono ?_
          rintro e w4 ⟨rfl, hm4, hch4⟩
          have HM4 := hd hm4
          have HC4 := hd hch4
          clear hm4 hch4 HD
          go_wp2_with (fail)
          go_ret
          refine ⟨rfl, ⟨fp3, ?_, HC3.out.trans HC4.out (fun k q => .inl (.inr (.inl q))), HF.out⟩⟩
          have g := HS3.out
          exact ⟨⟨g.mine.below.trans (HC4.out.below g.mine.below.size (fun k q => by rw [q]; exact g.lowm)), g.mine.at_.chg HC4.out (fun k hk q => g.outm (q ▸ hk)), g.mine.low⟩, ⟨g.led.blk.chg HC4.out g.nlm, g.led.out, g.led.low⟩, g.blk.chg HC4.out g.nsm, HM4.out, g.outs, g.outm, g.lows, g.lowm⟩
        · have hm := HM2.out
          rw [if_neg he] at hm
          cases hm
          have g0 : (er == 0) = false := by simpa using he
          go_wp2_with (fail)
          go_ret
          exact ⟨rfl, ⟨fp3, HS3.out, HC3.out, HF.out⟩⟩
end
end Go.Proofs.YtopajmbblemopaaGreatDoor
namespace Go.Proofs.YtopajmbblemopaaGreatDoor
set_option linter.unusedVariables false
set_option linter.unusedSimpArgs false
open Go.RowKit Go.Maps Go.WideMaps Go.Sort Go.Proofs.YtopajmbblemopaaGreatDoor.XSh Go.Proofs.YtopajmbblemopaaGreatDoorW.PrintWords Go.Proofs.YtopajmbblemopaaGreatDoorW.PrintLast Go.Proofs.YtopajmbblemopaaGreatDoorW.PrintMore
theorem cinfo : (Tryz.prog.info? 51).map (fun i => (i.zero, i.size, i.bytes)) = some (some (.agg #[.string ⟨#[]⟩, .string ⟨#[]⟩, .bool false]), 3, 40) := by kernel_rfl
def chsV : List MC → List Value
  | [] => []
  | a :: l => .string a.key :: .string a.val :: .bool a.gone :: chsV l
theorem chsV_app : ∀ (l r : List MC), chsV (l ++ r) = chsV l ++ chsV r
  | [], _ => rfl
  | a :: l, r => by
    show _ :: _ :: _ :: chsV (l ++ r) = _
    rw [chsV_app l r]
    rfl
theorem chsV_at : ∀ (l : List MC) (i j : Nat) (c : MC) (v : Value), l[i]? = some c → c.cells[j]? = some v → (chsV l)[i * 3 + j]? = some v
  | [], i, j, c, v, h, _ => by simp at h
  | a :: l, 0, j, c, v, h, hj => by
    injection h with h
    subst h
    match j with
    | 0 => exact hj
    | 1 => exact hj
    | 2 => exact hj
    | j + 3 => simp [MC.cells] at hj
  | a :: l, i + 1, j, c, v, h, hj => by
    have ih := chsV_at l i j c v h hj
    have e : (i + 1) * 3 + j = (i * 3 + j) + 1 + 1 + 1 := by omega
    rw [e]
    exact ih
theorem prsV_at : ∀ (l : Sh) (i : Nat) (a : Txt × Txt), l[i]? = some a → (prsV l)[i * 2]? = some (.string (str a.1)) ∧ (prsV l)[i * 2 + 1]? = some (.string (str a.2))
  | [], i, a, h => by simp at h
  | b :: l, 0, a, h => by
    injection h with h
    subst h
    exact ⟨rfl, rfl⟩
  | b :: l, i + 1, a, h => by
    have ih := prsV_at l i a h
    have e : (i + 1) * 2 = (i * 2) + 1 + 1 := by omega
    rw [e]
    exact ih
theorem add_zero (g k : Nat) : (⟨g, 0, none⟩ : Addr).add k = ⟨g, k, none⟩ := by unfold Addr.add; split <;> simp_all
theorem ch_of_row {w : World} {B : Nat} {v : Value} {l : List MC} (h : w.ownsRow B 51 3 v l.length (chsV l)) (hs : ∀ c ∈ l, c.key.size ≤ maxLen ∧ c.val.size ≤ maxLen) : ∃ A c, v = .slice A l.length c ∧ l.length ≤ c ∧ ChAt w A l ∧ (∀ k off, A = some ⟨k, off, none⟩ → B ≤ k ∧ k < w.heap.size) := by
  have hlt := h.lt
  rcases h.2 with ⟨rfl, h0⟩ | ⟨g, cap, cur, rfl, _, _, hcap, _⟩
  · have hl : l = [] := List.length_eq_zero_iff.1 h0
    subst hl
    exact ⟨none, 0, rfl, Nat.le_refl _, ⟨by simp, fun q => absurd rfl q, fun b off i j c v hA => by cases hA⟩, fun k off q => by cases q⟩
  · refine ⟨some ⟨g, 0, none⟩, cap, rfl, hcap, ⟨hs, fun _ => ⟨g, 0, rfl⟩, fun b off i j c v hA hi hj => ?_⟩, fun k off q => ?_⟩
    · injection hA with hA
      injection hA with h1 h2
      subst h1 h2
      have := h.cells (g := g) rfl (i * 3 + j) v (chsV_at l i j c v hi hj)
      rw [add_zero] at this
      rwa [Nat.zero_add]
    · injection q with q
      injection q with h1 h2
      subst h1
      exact hlt g rfl
def pkM (p : Sh) : List MC := p.map fun a => ⟨str a.1, str a.2, false⟩
theorem pk_len (p : Sh) : (pkM p).length = p.length := List.length_map _
theorem pk_toC (p : Sh) : (pkM p).map MC.toC = packC p := by
  unfold pkM packC
  rw [List.map_map]
  exact List.map_congr_left fun a _ => by show Chn.mk (bsL (str a.1)) false (bsL (str a.2)) = _; rw [bs_of, bs_of]
theorem pk_step (p : Sh) (k : Nat) (a : Txt × Txt) (h : p[k]? = some a) : pkM (p.take (k + 1)) = pkM (p.take k) ++ [⟨str a.1, str a.2, false⟩] := by
  rw [List.take_add_one, h]
  unfold pkM
  rw [List.map_append]
  rfl
theorem one3 (x y : ByteArray) (b : Bool) : ∀ u ∈ ([.string x, .string y, .bool b] : List Value), u.oneCell' = true := by
  intro u hu
  simp at hu
  rcases hu with rfl | rfl | rfl <;> rfl
theorem three_new (w : World) (x y z : Value) (T : TypeId) : ∀ j u, [x, y, z][j]? = some u → (w.alloc (.cells #[x, y, z] T)).cell? ((⟨w.heap.size, 0, none⟩ : Addr).add j) = some u := by
  intro j u hj
  rw [add_zero]
  have := (Blk.new w [x, y, z] T).cell j
  exact this.trans hj
section
variable {w0 w w' : World} {b sb mb lb : Nat} {s : RS} {L : LS} {p : Sh} {fp : List Nat}
set_option maxHeartbeats 1600000 in
theorem sh_pack (hG : Gl w0) (h : ShAt w0 w b sb mb lb s L p fp) (hO : L.Ok) (hp : p.length ≤ 4096) (hV : Valid p) (ht : costC (packC p) ≤ 4194304) {s' : RS} {L' : LS} {er : Int} (hm : packM s L p = (s', L', er)) :
    Calls Tryz.prog 20 #[.pointer (some ⟨sb, 0, none⟩)] w fun r w' => r = .returned (.int .i64 er) ∧ ShPost w0 w w' b sb mb lb fp s' L' p := by
  have hk : ∀ a ∈ p, a.1.length ≤ maxLen ∧ a.2.length ≤ maxLen := fun a ha => by
    obtain ⟨h1, h2, h3, _⟩ := (isC_iff _).1 (hV a ha)
    have h2' : a.1.length ≤ 128 := h2
    have h3' : a.2.length ≤ 262144 := h3
    unfold maxLen
    omega
  have HSC := hd (sh_scan h ⟨#[]⟩ ⟨#[]⟩ (by omega) (fun a ha => (hk a ha).1))
  have HK := hd hk
  have HS := hd h
  have HV := hd hV
  have hm2 : baseM s L (textC (packC p)) = (s', L', er) := by
    unfold packM at hm
    rw [if_neg (by omega)] at hm
    exact hm
  have HM := hd hm2
  have c1 := h.c1
  clear hm hm2 h hk hV
  go_enter Tryz.func20, Tryz.ntmps20
  go_wp2_with (fail)
  refine HSC.out.mono ?_
  rintro e w1 ⟨vs, Bs, rfl, hBs, hrow, hb⟩
  have he : scanS (bsL ⟨#[]⟩) (bsL ⟨#[]⟩) p = p := scanS_all p
  rw [he] at hrow
  have HR := hd hrow
  have HB := hd hb
  obtain ⟨A, cap, rfl⟩ : ∃ A cap, vs = .slice A p.length cap := by
    rcases hrow.2 with ⟨rfl, h0⟩ | ⟨g, cap, cur, rfl, _⟩
    · exact ⟨none, 0, by rw [h0]⟩
    · exact ⟨_, cap, rfl⟩
  clear hrow hb HSC he
  go_wp2_with (fail)
  go_loopw [3, 11] (fun v i wr => ∃ k : Nat, k ≤ p.length ∧ i = .int .i64 k ∧ Hd (wr.ownsRow w1.heap.size 51 3 v k (chsV (pkM (p.take k))) ∧ Below w1.heap.size w1 wr)) (fun _ i _ => p.length - (RowKit.intOf i).toNat)
  case atStart => exact ⟨0, by omega, rfl, hd ⟨World.ownsRow_nil _ _ _ _, Below.refl _ _⟩⟩
  case round =>
    obtain ⟨k, hkl, rfl, HL⟩ := hrel
    by_cases hlt : k < p.length
    · obtain ⟨a, ha⟩ : ∃ a, p[k]? = some a := ⟨_, List.getElem?_eq_getElem hlt⟩
      obtain ⟨g, hA⟩ : ∃ g, A = some ⟨g, 0, none⟩ := by
        rcases HR.out.2 with ⟨_, h0⟩ | ⟨g, cap', cur, hv, _⟩
        · omega
        · injection hv with hv
          exact ⟨g, hv⟩
      subst hA
      have hcell : ∀ j u, (prsV p)[j]? = some u → wr.cell? ⟨g, j, none⟩ = some u := fun j u hj => by
        have h1 := HR.out.cells (g := g) rfl j u hj
        rw [add_zero] at h1
        exact (HL.out.2.cell (World.block_lt_of_cell? w1 _ h1)).trans h1
      have x0 := hcell _ _ (prsV_at p k a ha).1
      have x1 := hcell _ _ (prsV_at p k a ha).2
      have HST := hd (pk_step p k a ha)
      obtain ⟨i0, hi, hz0, hz1, hz2⟩ := info_parts cinfo
      have HB2 := hd (HL.out.2.alloc HL.out.2.size (.cells #[.string (str a.1), .string (str a.2)] 47))
      have HO2 := hd (HL.out.1.alloc (.cells #[.string (str a.1), .string (str a.2)] 47))
      have hX : Blk (wr.alloc (.cells #[.string (str a.1), .string (str a.2)] 47)) wr.heap.size [.string (str a.1), .string (str a.2)] 47 := Blk.new _ _ _
      have HX := hd hX
      clear ha hcell hX
      go_upto_region 7 with (fail)
      generalize wr.alloc (.cells #[.string (str a.1), .string (str a.2)] 47) = W1 at *
      have y0 := HX.out.cell 0
      have y1 := HX.out.cell 1
      clear x0 x1
      go_wp2_with ((at_builtin; refine wpList_append_own_at _ rfl _ _ 22 rfl w1.heap.size 51 i0 (.agg #[.string ⟨#[]⟩, .string ⟨#[]⟩, .bool false]) 3 40 Tryz.underlying22 hi hz0 hz1 hz2 rfl (by decide) _ _ _ rfl (HO2.out.alloc _) ⟨W1.heap.size, 0, none⟩ 1 1 [.string (str a.1), .string (str a.2), .bool false] rfl rfl (three_new _ _ _ _ _) (one3 _ _ _) (by unfold maxLen; omega) (by omega) (by have := HB2.out.size; simp; omega) ?_; intro v' w5 hown' hgrow hnil hloc))
      go_wp2_with (fail)
      go_roundw
      case rel =>
        refine ⟨k + 1, by omega, by go_num, hd ⟨?_, ?_⟩⟩
        · rw [HST.out, chsV_app]
          exact hown'
        · exact below_grown (HB2.out.alloc HB2.out.size _) (Nat.le_refl _) hgrow (fun j hj => (HO2.out.lt j hj).1)
      case measure => simp [RowKit.intOf]; omega
    · obtain rfl : k = p.length := by omega
      have h := HL.out
      rw [List.take_length] at h
      have hpl := pk_len p
      obtain ⟨A2, c2, hv, hc2, hch, hloc⟩ := ch_of_row (l := pkM p) (by rw [hpl]; exact h.1) (fun c hc => by
        obtain ⟨a, ha, rfl⟩ := List.mem_map.1 hc
        show (str a.1).size ≤ _ ∧ (str a.2).size ≤ _
        rw [str_size, str_size]
        exact HK.out a ha)
      rw [hpl] at hv hc2
      subst hv
      have HBw := hd (HB.out.trans (h.2.mono HB.out.size))
      have HC2 := hd hc2
      have HCH := hd hch
      have hval : ∀ x ∈ pkM p, isC x.toC = true := fun x hx => by
        obtain ⟨a, ha, rfl⟩ := List.mem_map.1 hx
        show isC ⟨bsL (str a.1), false, bsL (str a.2)⟩ = true
        rw [bs_of, bs_of]
        exact HV.out a ha
      have HVAL := hd hval
      have htl : (textC (packC p)).length ≤ 4194304 := Nat.le_trans (text_len (pack_is HV.out)) ht
      have HT : Hd (∀ wq, Below wr.heap.size wr wq → Calls Tryz.prog 39 #[.slice A2 p.length c2] wq fun e w' => e = .returned (.string (str (textC (packC p)))) ∧ Below w.heap.size w w') := hd fun wq hb => by
        have hbw := HBw.out.trans (hb.mono HBw.out.size)
        have hx := ch_text (w := wq) (A := A2) (c := c2) (l := pkM p) (HCH.out.chg (Chg.of_below hb (fun _ => False)) (fun _ _ _ q => q)) (by rw [pk_len]; exact HC2.out) (gl_below hG (HS.out.below_ hbw).below) (by rw [pk_len]; omega) HVAL.out (by rw [pk_toC]; omega)
        rw [pk_len, pk_toC] at hx
        exact hx.mono fun e w' ⟨h1, h2⟩ => ⟨h1, hbw.trans (h2.mono hbw.size)⟩
      have HAD : Hd (∀ wq, Below w.heap.size w wq → Calls Tryz.prog 42 #[.pointer (some ⟨lb, 0, none⟩), .string (str (textC (packC p)))] wq fun e w' => e = .returned (.int .i64 er) ∧ ShPost w0 w w' b sb mb lb fp s' L' p) := hd fun wq hb => by
        have hS2 := HS.out.below_ hb
        refine (own_base hG hS2.mine hS2.led hO (str (textC (packC p))) (by rw [str_size]; exact htl) s' L' er (by rw [bs_of]; exact HM.out)).mono ?_
        rintro e w3 ⟨rfl, fp3, hm3, hl3, hch, hf⟩
        exact ⟨rfl, ShPost.first hb ⟨fp3, hS2.led_post hm3 hl3 hch hf, hch.mono (S' := Foot sb mb lb fp) (fun k _ q => led_foot k q), hf⟩⟩
      have HC : Hd (∀ wq, Below w.heap.size w wq → wq.cell? ⟨sb, 1, none⟩ = some (.pointer (some ⟨lb, 0, none⟩))) := hd fun wq hb => (HS.out.below_ hb).c1
      have HBD : Hd (∀ n, Below w.heap.size w (wr.drewN n) ∧ Below wr.heap.size wr (wr.drewN n)) := hd fun n => ⟨HBw.out.trans ((below_drewN0 wr n).mono HBw.out.size), below_drewN0 wr n⟩
      clear h hc2 hch hloc hval htl c1 hpl
      go_upto_region 11 with (fail)
      go_region_held (fun w' => w'.cell? ⟨sb, 1, none⟩ = some (.pointer (some ⟨lb, 0, none⟩))) (first | exact HC.out _ (HBD.out 1).1 | exact HC.out _ hb2 | exact d1) (first | (go_at_call 39; refine (HT.out _ (HBD.out 1).2).mono ?_; rintro e w2 ⟨rfl, hb2⟩) | (go_at_call 42; refine (HAD.out _ hb2).mono ?_; rintro e w3 ⟨rfl, hp3⟩; have d1 := hp3.c1; have HP3 := hd hp3; clear hp3))
      all_goals
        go_wp2_with (fail)
        go_ret
        exact ⟨rfl, HP3.out⟩
end
end Go.Proofs.YtopajmbblemopaaGreatDoor
namespace Go.Proofs.YtopajmbblemopaaGreatDoor.XSh
open Go.RowKit Go.Proofs.YtopajmbblemopaaGreatDoorW.PrintWords Go.Proofs.YtopajmbblemopaaGreatDoorW.PrintLast Go.Proofs.YtopajmbblemopaaGreatDoorW.PrintMore
attribute [local go_sem] max2_int min2_int max_two min_two max_three min_three max_four min_four   -- for this text's walks alone
set_option linter.unusedVariables false
set_option linter.unusedSimpArgs false

/-! ### shelf_read: function 33 -/
mutual
def shelf_read.l0 : Nat → List (S51) → List ByteArray → Int → Int → Option ((List (S51)) × Bool)
  | 0, _, _, _, _ => none
  | k + 1, x6, x19, x20, x21 => if x21 < x20 then (if 0 ≤ x21 then (if x21 < (x19.length : Int) then ((knot_Untie.f k (rdOf ByteArray.empty x19 x21)).bind fun bt135 => (if bt135.2 = 0 then (if (bt135.1.length : Int) = 3 then (if 1 < (bt135.1.length : Int) then (if (rdOf ByteArray.empty bt135.1 1).toList = ([48] : List UInt8) then (shelf_read.j1 k x6 bt135.1 x19 x20 x21 false) else (shelf_read.j1 k x6 bt135.1 x19 x20 x21 ((rdOf ByteArray.empty bt135.1 1).toList != ([49] : List UInt8)))) else (none)) else (shelf_read.j1 k x6 bt135.1 x19 x20 x21 true)) else (shelf_read.j1 k x6 bt135.1 x19 x20 x21 true))) else (none)) else (none)) else (some (x6, true))
def shelf_read.j1 : Nat → List (S51) → List ByteArray → List ByteArray → Int → Int → Bool → Option ((List (S51)) × Bool)
  | 0, _, _, _, _, _, _ => none
  | k + 1, x6, x9, x19, x20, x21, x48 => if x48 = true then (some (([] : List (S51)), false)) else (if 0 < (x9.length : Int) then (if 2 < (x9.length : Int) then (if 1 < (x9.length : Int) then ((shelf_is.f (rdOf ByteArray.empty x9 0) (rdOf ByteArray.empty x9 2) ((rdOf ByteArray.empty x9 1).toList == ([49] : List UInt8))).bind fun t145 => (if t145 = true then (if x6.length < 3518437208883 then (shelf_read.l0 k (x6 ++ [(⟨rdOf ByteArray.empty x9 0, rdOf ByteArray.empty x9 2, ((rdOf ByteArray.empty x9 1).toList == ([49] : List UInt8))⟩ : S51)]) x19 x20 (wrap64 (x21 + 1))) else (none)) else (some (([] : List (S51)), false)))) else (none)) else (none)) else (none))
end
def shelf_read.f (k : Nat) (a0 : ByteArray) : Option ((List (S51)) × Bool) := (knot_Untie.f k a0).bind fun bt130 => (if bt130.2 = 0 then (shelf_read.l0 k ([] : List (S51)) bt130.1 (bt130.1.length : Int) 0) else (some (([] : List (S51)), false)))
theorem shelf_read.mono_l : ∀ k, (∀ y0 y1 y2 y3, LeO (shelf_read.l0 k y0 y1 y2 y3) (shelf_read.l0 (k + 1) y0 y1 y2 y3)) ∧ (∀ y0 y1 y2 y3 y4 y5, LeO (shelf_read.j1 k y0 y1 y2 y3 y4 y5) (shelf_read.j1 (k + 1) y0 y1 y2 y3 y4 y5))
  | 0 => ⟨fun _ _ _ _ r h => by simp [shelf_read.l0] at h, fun _ _ _ _ _ _ r h => by simp [shelf_read.j1] at h⟩
  | k + 1 => by
    obtain ⟨ih0, ih1⟩ := shelf_read.mono_l k
    refine ⟨?_, ?_⟩
    · intro y0 y1 y2 y3
      unfold shelf_read.l0
      repeat' first
      | (with_reducible exact ih0 _ _ _ _)
      | (with_reducible exact ih1 _ _ _ _ _ _)
      | (with_reducible exact knot_Untie.mono _ _)
      | (with_reducible exact LeO.refl _)
      | (with_reducible exact LeO.none _)
      | (with_reducible refine LeO.ite ?_ ?_)
      | (with_reducible refine LeO.bind ?_ (fun _ => ?_))
      | exact ih0 _ _ _ _
      | exact ih1 _ _ _ _ _ _
      | exact knot_Untie.mono _ _
      | exact LeO.none _
      | refine LeO.ite ?_ ?_
      | refine LeO.bind ?_ (fun _ => ?_)
    · intro y0 y1 y2 y3 y4 y5
      unfold shelf_read.j1
      repeat' first
      | (with_reducible exact ih0 _ _ _ _)
      | (with_reducible exact ih1 _ _ _ _ _ _)
      | (with_reducible exact knot_Untie.mono _ _)
      | (with_reducible exact LeO.refl _)
      | (with_reducible exact LeO.none _)
      | (with_reducible refine LeO.ite ?_ ?_)
      | (with_reducible refine LeO.bind ?_ (fun _ => ?_))
      | exact ih0 _ _ _ _
      | exact ih1 _ _ _ _ _ _
      | exact knot_Untie.mono _ _
      | exact LeO.none _
      | refine LeO.ite ?_ ?_
      | refine LeO.bind ?_ (fun _ => ?_)
theorem shelf_read.mono : ∀ a0 k, LeO (shelf_read.f k a0) (shelf_read.f (k + 1) a0) := by
  intro a0 k
  obtain ⟨ih0, ih1⟩ := shelf_read.mono_l k
  unfold shelf_read.f
  repeat' first
      | (with_reducible exact ih0 _ _ _ _)
      | (with_reducible exact ih1 _ _ _ _ _ _)
      | (with_reducible exact knot_Untie.mono _ _)
      | (with_reducible exact LeO.refl _)
      | (with_reducible exact LeO.none _)
      | (with_reducible refine LeO.ite ?_ ?_)
      | (with_reducible refine LeO.bind ?_ (fun _ => ?_))
      | exact ih0 _ _ _ _
      | exact ih1 _ _ _ _ _ _
      | exact knot_Untie.mono _ _
      | exact LeO.none _
      | refine LeO.ite ?_ ?_
      | refine LeO.bind ?_ (fun _ => ?_)
def shelf_read.T11 : Bool × List (List Nat × List Nat) := (true, [([], []), ([0], [0]), ([1], [1]), ([], []), ([3], [3]), ([4], [4]), ([], []), ([6], [6]), ([7], [7]), ([8], [8]), ([2, 5, 9], [2, 5, 9]), ([], []), ([11, 10, 0, 1, 2, 3, 4, 5, 6, 7, 8, 9, 10, 11], [10, 11])])
def shelf_read.B11 : List Nat := [0, 1, 3, 0, 8, 24, 0, 64, 192, 448, 1023, 0, 4095]
theorem shelf_read.tab11 : rtab .any (opsOf Tryz.f33 11) = shelf_read.T11 := by kernel_rfl
theorem shelf_read.bits11 : waitsOk shelf_read.T11.2 shelf_read.B11 = true := by kernel_rfl
set_option maxHeartbeats 8000000 in
set_option maxRecDepth 100000 in
theorem shelf_read.calls (k : Nat) (a0 : ByteArray) (r1 : List (S51)) (r2 : Bool) (w : World) (h : shelf_read.f k a0 = some (r1, r2)) (hG : Gl w) :
    Calls Tryz.prog 33 #[.string a0] w fun e w' => ∃ v0_ : Value, e = .returned (.tuple #[v0_, .bool r2]) ∧ Kd.R k51 51 w' w.heap.size (fun _ => True) v0_ r1 ∧ Below w.heap.size w w' := by
  have HG := Aside0.mk hG
  clear hG
  have hu51 := Tryz.underlying51
  have HB := Aside0.mk (Below.refl w.heap.size w)
  have H : ((knot_Untie.f k a0).bind fun bt130 => (if bt130.2 = 0 then (shelf_read.l0 k ([] : List (S51)) bt130.1 (bt130.1.length : Int) 0) else (some (([] : List (S51)), false)))) = some (r1, r2) := h
  clear h
  replace H := Option.bind_eq_some_iff.mp H
  obtain ⟨⟨t130, t131⟩, A20, H⟩ := H
  replace H : (if t131 = 0 then (shelf_read.l0 k ([] : List (S51)) t130 (t130.length : Int) 0) else (some (([] : List (S51)), false))) = some (r1, r2) := H
  have A2 := Aside0.mk A20
  clear A20
  by_cases c3 : t131 = 0
  · rw [if_pos c3] at H
    have c3b0 : (t131 == 0) = true := beq_iff_eq.mpr c3
    have c3b1 : (t131 != 0) = false := bne_eq_false_iff_eq.mpr c3
    clear c3
    have H' := Aside0.mk H
    clear H
    go_enter Tryz.func33, Tryz.ntmps33
    go_wp2_with (first | ((with_reducible refine gate_callee (f := 65) rfl ?_); refine goesL_ (some 14) rfl rfl Tryz.func65 (by kernel_rfl) rfl #[.string a0] rfl (by (try simp only [List.map_toArray, List.map_cons, List.map_nil]); first | done | rfl | (simp only [List.length_drop, List.length_take]; rfl)) ?_; (with_reducible refine (knot_Untie.calls k a0 t130 t131 _ A2.out (gl_below HG.out (by repeat (first | (with_reducible first | exact HB.out | apply below_alloc | apply pw_below_drewN | apply below_drew1) | exact HB.out)))).mono ?_); rintro e w4 ⟨v132, rfl, ho0, hb⟩; refine ⟨_, rfl, ?_⟩; have n0_ := Aside0.mk (Kd.R_lower ho0 (below_size (by repeat (first | (with_reducible first | exact HB.out | apply below_alloc | apply pw_below_drewN | apply below_drew1) | exact HB.out)))); have n1_ := Aside0.mk (below_step (by repeat (first | (with_reducible first | exact HB.out | apply below_alloc | apply pw_below_drewN | apply below_drew1) | exact HB.out)) hb); clear HB; have HO133 := n0_; have HB := n1_; clear n0_ n1_; (try clear hb); (try clear hb2); (try clear hk); (try clear hi); (try clear ho0); obtain ⟨Ao5, co5, eo5⟩ := Kd.R_slice HO133.out; subst eo5))
    go_loopg [6, 21] k (fun kq v6 v21 w' => ∃ (x6_1 : List (S51)) (x21_1 : Int), v21 = .int .i64 x21_1 ∧ Aside0 (shelf_read.l0 kq x6_1 t130 (t130.length : Int) x21_1 = some (r1, r2)) ∧ Aside0 (kq ≤ k) ∧ Aside0 (Kd.R k51 51 w' w.heap.size (fun _ => True) v6 x6_1) ∧ Aside0 (Kd.R Kd.string 9 w' w.heap.size (fun _ => True) (.slice Ao5 t130.length co5) t130) ∧ Aside0 (Below w.heap.size w w'))
    case atStart => exact ⟨(([] : List (S51))), (0), (by first | rfl | (simp; done) | (simp [*]; done)), H', ⟨Nat.le_refl _⟩, ⟨by first | exact Kd.R_nil _ _ _ _ _ | exact Kd.N_nil _ _ _ _ _ | exact Kd.V_nil _ _ _ _ _ | exact Kd.Q_nil _ _ _ _ _ | exact Kd.S_nil _ _ _ _ _⟩, ⟨by (with_reducible repeat (first | apply Kd.R_alloc | apply Kd.R_drewN | apply Kd.R_drew)); exact HO133.out⟩, ⟨by repeat (first | (with_reducible first | exact HB.out | apply below_alloc | apply pw_below_drewN | apply below_drew1) | exact HB.out)⟩⟩
    case round =>
      clear H'
      try clear p2
      try clear c3
      try clear c3b0
      try clear c3b1
      obtain ⟨x6_1, x21_1, rfl, HA, HK1, HO_6, HO_19, HB⟩ := hrel
      cases gk with
      | zero => exact absurd HA.out (by simp [shelf_read.l0])
      | succ k1 =>
        have H := HA.out
        clear HA
        simp only [shelf_read.l0] at H
        by_cases c6 : x21_1 < (t130.length : Int)
        · rw [if_pos c6] at H
          have c6b0 : decide (x21_1 < (t130.length : Int)) = true := decide_eq_true c6
          clear c6
          by_cases c7 : 0 ≤ x21_1
          · rw [if_pos c7] at H
            have c7b0 : decide (0 ≤ x21_1) = true := decide_eq_true c7
            clear c7
            by_cases c8 : x21_1 < (t130.length : Int)
            · rw [if_pos c8] at H
              have c8b0 : decide (x21_1 < (t130.length : Int)) = true := decide_eq_true c8
              clear c8
              replace H := Option.bind_eq_some_iff.mp H
              obtain ⟨⟨t135, t136⟩, A90, H⟩ := H
              replace H : (if t136 = 0 then (if (t135.length : Int) = 3 then (if 1 < (t135.length : Int) then (if (rdOf ByteArray.empty t135 1).toList = ([48] : List UInt8) then (shelf_read.j1 k1 x6_1 t135 t130 (t130.length : Int) x21_1 false) else (shelf_read.j1 k1 x6_1 t135 t130 (t130.length : Int) x21_1 ((rdOf ByteArray.empty t135 1).toList != ([49] : List UInt8)))) else (none)) else (shelf_read.j1 k1 x6_1 t135 t130 (t130.length : Int) x21_1 true)) else (shelf_read.j1 k1 x6_1 t135 t130 (t130.length : Int) x21_1 true)) = some (r1, r2) := H
              have A9 := Aside0.mk A90
              clear A90
              have HC10 := Aside0.mk H
              clear H
              have p134 : 0 ≤ (x21_1 : Int) := of_decide_eq_true (by first | (with_reducible assumption) | assumption)
              have q134 : x21_1 < (t130.length : Int) := of_decide_eq_true (by first | (with_reducible assumption) | assumption)
              obtain ⟨ad134, e134, hx134_0⟩ := Kd.at_string (Kd.R_reads' HO_19.out).2.2 x21_1 p134 q134
              cases e134
              replace p134 := eq_true p134
              replace q134 := eq_true q134
              go_upto_region 9 with (first | ((with_reducible refine gate_callee (f := 65) rfl ?_); refine goesL_ (some 27) rfl rfl Tryz.func65 (by kernel_rfl) rfl #[.string (rdOf ByteArray.empty t130 x21_1)] rfl (by (try simp only [List.map_toArray, List.map_cons, List.map_nil]); first | done | rfl | (simp only [List.length_drop, List.length_take]; rfl)) ?_; (with_reducible refine (knot_Untie.calls k1 (rdOf ByteArray.empty t130 x21_1) t135 t136 _ A9.out (gl_below HG.out (by repeat (first | (with_reducible first | exact HB.out | apply below_alloc | apply pw_below_drewN | apply below_drew1) | exact HB.out)))).mono ?_); rintro e w11 ⟨v137, rfl, ho0, hb⟩; refine ⟨_, rfl, ?_⟩; have n0_ := Aside0.mk (Kd.R_below (by (with_reducible repeat (first | apply Kd.R_alloc | apply Kd.R_drewN | apply Kd.R_drew)); exact HO_6.out) hb); have n1_ := Aside0.mk (Kd.R_elder' (by (with_reducible repeat (first | apply Kd.R_alloc | apply Kd.R_drewN | apply Kd.R_drew)); exact HO_19.out) (Kd.R_base ho0) hb); have n2_ := Aside0.mk (Kd.R_lower (Kd.R_new' ho0 (Kd.R_lt (by (with_reducible repeat (first | apply Kd.R_alloc | apply Kd.R_drewN | apply Kd.R_drew)); exact HO_19.out))) (below_size (by repeat (first | (with_reducible first | exact HB.out | apply below_alloc | apply pw_below_drewN | apply below_drew1) | exact HB.out)))); have n3_ := Aside0.mk (below_step (by repeat (first | (with_reducible first | exact HB.out | apply below_alloc | apply pw_below_drewN | apply below_drew1) | exact HB.out)) hb); clear HO_6; clear HO_19; clear HB; have HO_6 := n0_; have HO_19 := n1_; have HO138 := n2_; have HB := n3_; clear n0_ n1_ n2_ n3_; (try clear hb); (try clear hb2); (try clear hk); (try clear hi); (try clear ho0)))
              (try simp only [Act.put, List.setIfInBounds_toArray, List.set_cons_zero, List.set_cons_succ])
              go_cut [48] (fun v48 wc => ∃ (kq : Nat) (x48_9 : Bool), v48 = .bool x48_9 ∧ Aside0 (shelf_read.j1 kq x6_1 t135 t130 (t130.length : Int) x21_1 x48_9 = some (r1, r2)) ∧ Aside0 (kq ≤ k1) ∧ Aside0 (Kd.R k51 51 wc w.heap.size (fun _ => True) u6 x6_1) ∧ Aside0 (Kd.R Kd.string 9 wc w.heap.size (fun k_ => some k_ ≠ ((.slice (some ad134) t130.length co5) : Value).ownBlock) v137 t135) ∧ Aside0 (Kd.R Kd.string 9 wc w.heap.size (fun k_ => some k_ ≠ (v137 : Value).ownBlock) (.slice (some ad134) t130.length co5) t130) ∧ Aside0 (Below w.heap.size w wc))
              case first =>
                have H := HC10.out
                clear HC10
                by_cases c12 : t136 = 0
                · rw [if_pos c12] at H
                  have c12b0 : (t136 == 0) = true := beq_iff_eq.mpr c12
                  have c12b1 : (t136 != 0) = false := bne_eq_false_iff_eq.mpr c12
                  clear c12
                  (first | rw [c12b0] | (simp only [i64_w, i32_w]; rw [c12b0]) | skip)
                  by_cases c13 : (t135.length : Int) = 3
                  · rw [if_pos c13] at H
                    have c13b0 : ((t135.length : Int) == 3) = true := beq_iff_eq.mpr c13
                    have c13b1 : ((t135.length : Int) != 3) = false := bne_eq_false_iff_eq.mpr c13
                    clear c13
                    by_cases c14 : 1 < (t135.length : Int)
                    · rw [if_pos c14] at H
                      have c14b0 : decide (1 < (t135.length : Int)) = true := decide_eq_true c14
                      have c14b1 : decide (1 < t135.length) = true := decide_eq_true (by omega)
                      clear c14
                      by_cases c15 : (rdOf ByteArray.empty t135 1).toList = ([48] : List UInt8)
                      · rw [if_pos c15] at H
                        have c15b0 : ((rdOf ByteArray.empty t135 1).toList == ([48] : List UInt8)) = true := beq_iff_eq.mpr c15
                        have c15b1 : ((rdOf ByteArray.empty t135 1).toList != ([48] : List UInt8)) = false := bne_eq_false_iff_eq.mpr c15
                        clear c15
                        have H' := Aside0.mk H
                        clear H
                        obtain ⟨Ao16, co16, eo16⟩ := Kd.R_slice HO138.out
                        subst eo16
                        have p139 : 0 ≤ (1 : Int) := (by omega)
                        have q139 : 1 < (t135.length : Int) := of_decide_eq_true (by first | (with_reducible assumption) | assumption)
                        obtain ⟨ad139, e139, hx139_0⟩ := Kd.at_string (Kd.R_reads' HO138.out).2.2 1 p139 q139
                        cases e139
                        (try simp only [show (1 : Int).toNat = 1 from rfl, Nat.reduceMul, Nat.reduceEqDiff, Go.Addr.add, ↓reduceIte] at hx139_0)
                        have qi139 : (1 < t135.length) = True := eq_true (by omega)
                        (try rw [show ((1 : Int)).toNat = 1 from rfl] at hx139_0)
                        replace p139 := eq_true p139
                        replace q139 := eq_true q139
                        go_wp2
                        go_meet
                        case rel => exact ⟨_, (false), (by first | rfl | (simp; done) | (simp [*]; done)), H', ⟨by have := HK1.out; first | omega | exact Nat.le_refl _⟩, ⟨by (with_reducible repeat (first | apply Kd.R_alloc | apply Kd.R_drewN | apply Kd.R_drew)); exact HO_6.out⟩, ⟨by (with_reducible repeat (first | apply Kd.R_alloc | apply Kd.R_drewN | apply Kd.R_drew)); exact Kd.R_mono HO138.out (fun _ hk => hk.2)⟩, ⟨by (with_reducible repeat (first | apply Kd.R_alloc | apply Kd.R_drewN | apply Kd.R_drew)); exact Kd.R_mono HO_19.out (fun _ hk => hk.2)⟩, ⟨by repeat (first | (with_reducible first | exact HB.out | apply below_alloc | apply pw_below_drewN | apply below_drew1) | exact HB.out)⟩⟩
                      · rw [if_neg c15] at H
                        have c15b0 : ((rdOf ByteArray.empty t135 1).toList == ([48] : List UInt8)) = false := beq_eq_false_iff_ne.mpr c15
                        have c15b1 : ((rdOf ByteArray.empty t135 1).toList != ([48] : List UInt8)) = true := bne_iff_ne.mpr c15
                        have H' := Aside0.mk H
                        clear H
                        obtain ⟨Ao17, co17, eo17⟩ := Kd.R_slice HO138.out
                        subst eo17
                        have p139 : 0 ≤ (1 : Int) := (by omega)
                        have q139 : 1 < (t135.length : Int) := of_decide_eq_true (by first | (with_reducible assumption) | assumption)
                        obtain ⟨ad139, e139, hx139_0⟩ := Kd.at_string (Kd.R_reads' HO138.out).2.2 1 p139 q139
                        cases e139
                        (try simp only [show (1 : Int).toNat = 1 from rfl, Nat.reduceMul, Nat.reduceEqDiff, Go.Addr.add, ↓reduceIte] at hx139_0)
                        have qi139 : (1 < t135.length) = True := eq_true (by omega)
                        (try rw [show ((1 : Int)).toNat = 1 from rfl] at hx139_0)
                        replace p139 := eq_true p139
                        replace q139 := eq_true q139
                        have p140 : 0 ≤ (1 : Int) := (by omega)
                        have q140 : 1 < (t135.length : Int) := of_decide_eq_true (by first | (with_reducible assumption) | assumption)
                        obtain ⟨ad140, e140, hx140_0⟩ := Kd.at_string (Kd.R_reads' HO138.out).2.2 1 p140 q140
                        obtain rfl : ad139 = ad140 := (by injection e140)
                        (try simp only [show (1 : Int).toNat = 1 from rfl, Nat.reduceMul, Nat.reduceEqDiff, Go.Addr.add, ↓reduceIte] at hx140_0)
                        have qi140 : (1 < t135.length) = True := eq_true (by omega)
                        (try rw [show ((1 : Int)).toNat = 1 from rfl] at hx140_0)
                        replace p140 := eq_true p140
                        replace q140 := eq_true q140
                        go_wp2
                        go_meet
                        case rel => exact ⟨_, (((rdOf ByteArray.empty t135 1).toList != ([49] : List UInt8))), (by first | rfl | (simp; done) | (simp [*]; done)), H', ⟨by have := HK1.out; first | omega | exact Nat.le_refl _⟩, ⟨by (with_reducible repeat (first | apply Kd.R_alloc | apply Kd.R_drewN | apply Kd.R_drew)); exact HO_6.out⟩, ⟨by (with_reducible repeat (first | apply Kd.R_alloc | apply Kd.R_drewN | apply Kd.R_drew)); exact Kd.R_mono HO138.out (fun _ hk => hk.2)⟩, ⟨by (with_reducible repeat (first | apply Kd.R_alloc | apply Kd.R_drewN | apply Kd.R_drew)); exact Kd.R_mono HO_19.out (fun _ hk => hk.2)⟩, ⟨by repeat (first | (with_reducible first | exact HB.out | apply below_alloc | apply pw_below_drewN | apply below_drew1) | exact HB.out)⟩⟩
                    · rw [if_neg c14] at H
                      exact absurd H (by simp)
                  · rw [if_neg c13] at H
                    have c13b0 : ((t135.length : Int) == 3) = false := beq_eq_false_iff_ne.mpr c13
                    have c13b1 : ((t135.length : Int) != 3) = true := bne_iff_ne.mpr c13
                    have H' := Aside0.mk H
                    clear H
                    obtain ⟨Ao18, co18, eo18⟩ := Kd.R_slice HO138.out
                    subst eo18
                    go_wp2
                    go_meet
                    case rel => exact ⟨_, (true), (by first | rfl | (simp; done) | (simp [*]; done)), H', ⟨by have := HK1.out; first | omega | exact Nat.le_refl _⟩, ⟨by (with_reducible repeat (first | apply Kd.R_alloc | apply Kd.R_drewN | apply Kd.R_drew)); exact HO_6.out⟩, ⟨by (with_reducible repeat (first | apply Kd.R_alloc | apply Kd.R_drewN | apply Kd.R_drew)); exact Kd.R_mono HO138.out (fun _ hk => hk.2)⟩, ⟨by (with_reducible repeat (first | apply Kd.R_alloc | apply Kd.R_drewN | apply Kd.R_drew)); exact Kd.R_mono HO_19.out (fun _ hk => hk.2)⟩, ⟨by repeat (first | (with_reducible first | exact HB.out | apply below_alloc | apply pw_below_drewN | apply below_drew1) | exact HB.out)⟩⟩
                · rw [if_neg c12] at H
                  have c12b0 : (t136 == 0) = false := beq_eq_false_iff_ne.mpr c12
                  have c12b1 : (t136 != 0) = true := bne_iff_ne.mpr c12
                  (first | rw [c12b0] | (simp only [i64_w, i32_w]; rw [c12b0]) | skip)
                  have H' := Aside0.mk H
                  clear H
                  go_wp2
                  go_meet
                  case rel => exact ⟨_, (true), (by first | rfl | (simp; done) | (simp [*]; done)), H', ⟨by have := HK1.out; first | omega | exact Nat.le_refl _⟩, ⟨by (with_reducible repeat (first | apply Kd.R_alloc | apply Kd.R_drewN | apply Kd.R_drew)); exact HO_6.out⟩, ⟨by (with_reducible repeat (first | apply Kd.R_alloc | apply Kd.R_drewN | apply Kd.R_drew)); exact Kd.R_mono HO138.out (fun _ hk => hk.2)⟩, ⟨by (with_reducible repeat (first | apply Kd.R_alloc | apply Kd.R_drewN | apply Kd.R_drew)); exact Kd.R_mono HO_19.out (fun _ hk => hk.2)⟩, ⟨by repeat (first | (with_reducible first | exact HB.out | apply below_alloc | apply pw_below_drewN | apply below_drew1) | exact HB.out)⟩⟩
              case rest =>
                clear HC10
                try clear c1
                try clear p1
                try clear q1
                try clear hx1
                try clear qi1
                try clear p2
                try clear c3
                try clear c3b0
                try clear c3b1
                try clear c6
                try clear c6b0
                try clear c7
                try clear c7b0
                try clear c8
                try clear c8b0
                try clear c12
                try clear c12b0
                try clear c12b1
                try clear c13
                try clear c13b0
                try clear c13b1
                try clear p13
                try clear q13
                try clear hx13
                try clear qi13
                try clear c14
                try clear c14b0
                try clear c14b1
                try clear p14
                try clear q14
                try clear hx14
                try clear qi14
                try clear c15
                try clear c15b0
                try clear c15b1
                try clear hx134_0
                try clear hx139_0
                try clear hx140_0
                try clear p134
                try clear p139
                try clear p140
                try clear p2
                try clear q134
                try clear q139
                try clear q140
                obtain ⟨kq, x48_9, rfl, HA, HJ9, HO_6, HO_9, HO_19, HB⟩ := hcut
                cases kq with
                | zero => exact absurd HA.out (by simp [shelf_read.j1])
                | succ kj9 =>
                  have H := HA.out
                  clear HA
                  simp only [shelf_read.j1] at H
                  by_cases c19 : x48_9 = true
                  · subst c19
                    have H1 : (some (([] : List (S51)), false)) = some (r1, r2) := by rw [if_pos rfl] at H; exact H
                    clear H
                    have H := H1
                    clear H1
                    simp only [Option.some.injEq, Prod.mk.injEq] at H
                    obtain ⟨rfl, rfl⟩ := H
                    go_wp2
                    go_ret2
                    exact ⟨_, by first | rfl | (simp [errW_none, errW_some] <;> rfl) | (simp [*, errW_none, errW_some] <;> rfl), by first | exact Kd.R_nil _ _ _ _ _ | exact Kd.N_nil _ _ _ _ _ | exact Kd.V_nil _ _ _ _ _ | exact Kd.Q_nil _ _ _ _ _ | exact Kd.S_nil _ _ _ _ _, by repeat (first | (with_reducible first | exact HB.out | apply below_alloc | apply pw_below_drewN | apply below_drew1) | exact HB.out)⟩
                  · replace c19 := Bool.eq_false_iff.mpr c19
                    subst c19
                    have H1 : (if 0 < (t135.length : Int) then (if 2 < (t135.length : Int) then (if 1 < (t135.length : Int) then ((shelf_is.f (rdOf ByteArray.empty t135 0) (rdOf ByteArray.empty t135 2) ((rdOf ByteArray.empty t135 1).toList == ([49] : List UInt8))).bind fun t145 => (if t145 = true then (if x6_1.length < 3518437208883 then (shelf_read.l0 kj9 (x6_1 ++ [(⟨rdOf ByteArray.empty t135 0, rdOf ByteArray.empty t135 2, ((rdOf ByteArray.empty t135 1).toList == ([49] : List UInt8))⟩ : S51)]) t130 (t130.length : Int) (wrap64 (x21_1 + 1))) else (none)) else (some (([] : List (S51)), false)))) else (none)) else (none)) else (none)) = some (r1, r2) := by rw [if_neg (show ¬ (false = true) by decide)] at H; exact H
                    clear H
                    have H := H1
                    clear H1
                    by_cases c20 : 0 < (t135.length : Int)
                    · rw [if_pos c20] at H
                      have c20b0 : decide (0 < (t135.length : Int)) = true := decide_eq_true c20
                      have c20b1 : decide (0 < t135.length) = true := decide_eq_true (by omega)
                      clear c20
                      by_cases c21 : 2 < (t135.length : Int)
                      · rw [if_pos c21] at H
                        have c21b0 : decide (2 < (t135.length : Int)) = true := decide_eq_true c21
                        have c21b1 : decide (2 < t135.length) = true := decide_eq_true (by omega)
                        clear c21
                        by_cases c22 : 1 < (t135.length : Int)
                        · rw [if_pos c22] at H
                          have c22b0 : decide (1 < (t135.length : Int)) = true := decide_eq_true c22
                          have c22b1 : decide (1 < t135.length) = true := decide_eq_true (by omega)
                          clear c22
                          replace H := Option.bind_eq_some_iff.mp H
                          obtain ⟨t145, A230, H⟩ := H
                          replace H : (if t145 = true then (if x6_1.length < 3518437208883 then (shelf_read.l0 kj9 (x6_1 ++ [(⟨rdOf ByteArray.empty t135 0, rdOf ByteArray.empty t135 2, ((rdOf ByteArray.empty t135 1).toList == ([49] : List UInt8))⟩ : S51)]) t130 (t130.length : Int) (wrap64 (x21_1 + 1))) else (none)) else (some (([] : List (S51)), false))) = some (r1, r2) := H
                          have A23 := Aside0.mk A230
                          clear A230
                          by_cases c24 : t145 = true
                          · subst c24
                            have H1 : (if x6_1.length < 3518437208883 then (shelf_read.l0 kj9 (x6_1 ++ [(⟨rdOf ByteArray.empty t135 0, rdOf ByteArray.empty t135 2, ((rdOf ByteArray.empty t135 1).toList == ([49] : List UInt8))⟩ : S51)]) t130 (t130.length : Int) (wrap64 (x21_1 + 1))) else (none)) = some (r1, r2) := by rw [if_pos rfl] at H; exact H
                            clear H
                            have H := H1
                            clear H1
                            by_cases c25 : x6_1.length < 3518437208883
                            · rw [if_pos c25] at H
                              have LMc25 := Aside0.mk c25
                              clear c25
                              obtain ⟨y146, hy146⟩ : ∃ y_ : List (S51), y_ = (x6_1 ++ [(⟨rdOf ByteArray.empty t135 0, rdOf ByteArray.empty t135 2, ((rdOf ByteArray.empty t135 1).toList == ([49] : List UInt8))⟩ : S51)]) := ⟨_, rfl⟩
                              replace H : (shelf_read.l0 kj9 y146 t130 (t130.length : Int) (wrap64 (x21_1 + 1))) = some (r1, r2) := by first | (rw [hy146]; with_reducible exact H) | (have H2_ := (Option.bind_some _ _).symm.trans H; rw [hy146]; with_reducible exact H2_) | (have H2_ := (Option.bind_some _ _).symm.trans H; with_reducible exact H2_) | with_reducible exact H | (rw [hy146]; exact H) | exact H
                              have Ny146 := Aside0.mk hy146
                              clear hy146
                              have H' := Aside0.mk H
                              clear H
                              try go_wp2
                              have n0_ := Aside0.mk (Kd.R_drew HO_6.out)
                              have n1_ := Aside0.mk (Kd.R_drew HO_9.out)
                              have n2_ := Aside0.mk (Kd.R_drew HO_19.out)
                              have n3_ := Aside0.mk (below_drew1 HB.out)
                              clear HO_6
                              clear HO_9
                              clear HO_19
                              clear HB
                              have HO_6 := n0_
                              have HO_9 := n1_
                              have HO_19 := n2_
                              have HB := n3_
                              clear n0_ n1_ n2_ n3_
                              obtain ⟨Ao27, co27, eo27⟩ := Kd.R_slice HO_9.out
                              (first | subst eo27 | (injection eo27 with f1_ f2_ f3_; have f4_ := f1_.symm; have f5_ := f3_.symm; clear f1_ f2_ f3_; subst f4_; subst f5_))
                              have p141 : 0 ≤ (0 : Int) := (by omega)
                              have q141 : 0 < (t135.length : Int) := of_decide_eq_true (by first | (with_reducible assumption) | assumption)
                              obtain ⟨ad141, e141, hx141_0⟩ := Kd.at_string (Kd.R_reads' HO_9.out).2.2 0 p141 q141
                              cases e141
                              have qi141 : (0 < t135.length) = True := eq_true (by omega)
                              (try rw [show ((0 : Int)).toNat = 0 from rfl] at hx141_0)
                              (try rw [Addr.add_zero'] at hx141_0)
                              replace p141 := eq_true p141
                              replace q141 := eq_true q141
                              have p142 : 0 ≤ (2 : Int) := (by omega)
                              have q142 : 2 < (t135.length : Int) := of_decide_eq_true (by first | (with_reducible assumption) | assumption)
                              obtain ⟨ad142, e142, hx142_0⟩ := Kd.at_string (Kd.R_reads' HO_9.out).2.2 2 p142 q142
                              obtain rfl : ad141 = ad142 := (by injection e142)
                              (try simp only [show (2 : Int).toNat = 2 from rfl, Nat.reduceMul, Nat.reduceEqDiff, Go.Addr.add, ↓reduceIte] at hx142_0)
                              have qi142 : (2 < t135.length) = True := eq_true (by omega)
                              (try rw [show ((2 : Int)).toNat = 2 from rfl] at hx142_0)
                              replace p142 := eq_true p142
                              replace q142 := eq_true q142
                              have p143 : 0 ≤ (1 : Int) := (by omega)
                              have q143 : 1 < (t135.length : Int) := of_decide_eq_true (by first | (with_reducible assumption) | assumption)
                              obtain ⟨ad143, e143, hx143_0⟩ := Kd.at_string (Kd.R_reads' HO_9.out).2.2 1 p143 q143
                              obtain rfl : ad141 = ad143 := (by injection e143)
                              (try simp only [show (1 : Int).toNat = 1 from rfl, Nat.reduceMul, Nat.reduceEqDiff, Go.Addr.add, ↓reduceIte] at hx143_0)
                              have qi143 : (1 < t135.length) = True := eq_true (by omega)
                              (try rw [show ((1 : Int)).toNat = 1 from rfl] at hx143_0)
                              replace p143 := eq_true p143
                              replace q143 := eq_true q143
                              refine start_ (n := 13) (S := fun w' => w'.cell? ad141 = some (.string (rdOf ByteArray.empty t135 0)) ∧ w'.cell? ⟨ad141.block, ad141.off + 2, none⟩ = some (.string (rdOf ByteArray.empty t135 2)) ∧ w'.cell? ⟨ad141.block, ad141.off + 1, none⟩ = some (.string (rdOf ByteArray.empty t135 1))) (ds := []) #[false, false, false, false, false, false, false, false, false, false, false, false, false] (by kernel_rfl) rfl rfl ⟨hx141_0, hx142_0, hx143_0⟩ (fun hHeld => ?_); refine with_tabW shelf_read.tab11 shelf_read.bits11 (fun HT_ HW_ => ?_)
                              generalize wc.drew = w26 at HO_6 HO_9 HO_19 HB hx141_0 hx142_0 hx143_0 hHeld ⊢
                              refine pure_ (i := 0) (N := some 49) (v := ?_) (a' := ?_) #[true, false, false, false, false, false, false, false, false, false, false, false, false] rfl rfl (any_of HT_.out (by kernel_rfl)) (fun _ _ _ h => h) (Or.inl ⟨by rfl, ?_⟩) ?_ ?_
                              rotate_left
                              · intro w'
                                go_simp
                                with_reducible rfl
                              rotate_left
                              · simp only [Act.put, List.setIfInBounds_toArray, List.set_cons_zero, List.set_cons_succ, i64_w, i32_w]
                                rfl
                              refine pure_ (i := 1) (N := some 50) (v := ?_) (a' := ?_) #[true, true, false, false, false, false, false, false, false, false, false, false, false] rfl rfl (any_of HT_.out (by kernel_rfl)) (fun _ _ _ h => h) (Or.inl ⟨by rfl, ?_⟩) ?_ ?_
                              rotate_left
                              · intro w'
                                go_simp
                                with_reducible rfl
                              rotate_left
                              · simp only [Act.put, List.setIfInBounds_toArray, List.set_cons_zero, List.set_cons_succ, i64_w, i32_w]
                                rfl
                              refine pure_ (i := 3) (N := some 52) (v := ?_) (a' := ?_) #[true, true, false, true, false, false, false, false, false, false, false, false, false] rfl rfl (any_of HT_.out (by kernel_rfl)) (fun _ _ _ h => h) (Or.inl ⟨by rfl, ?_⟩) ?_ ?_
                              rotate_left
                              · intro w'
                                go_simp
                                with_reducible rfl
                              rotate_left
                              · simp only [Act.put, List.setIfInBounds_toArray, List.set_cons_zero, List.set_cons_succ, i64_w, i32_w]
                                rfl
                              refine pure_ (i := 4) (N := some 53) (v := ?_) (a' := ?_) #[true, true, false, true, true, false, false, false, false, false, false, false, false] rfl rfl (any_of HT_.out (by kernel_rfl)) (fun _ _ _ h => h) (Or.inl ⟨by rfl, ?_⟩) ?_ ?_
                              rotate_left
                              · intro w'
                                go_simp
                                with_reducible rfl
                              rotate_left
                              · simp only [Act.put, List.setIfInBounds_toArray, List.set_cons_zero, List.set_cons_succ, i64_w, i32_w]
                                rfl
                              refine pure_ (i := 6) (N := some 55) (v := ?_) (a' := ?_) #[true, true, false, true, true, false, true, false, false, false, false, false, false] rfl rfl (any_of HT_.out (by kernel_rfl)) (fun _ _ _ h => h) (Or.inl ⟨by rfl, ?_⟩) ?_ ?_
                              rotate_left
                              · intro w'
                                go_simp
                                with_reducible rfl
                              rotate_left
                              · simp only [Act.put, List.setIfInBounds_toArray, List.set_cons_zero, List.set_cons_succ, i64_w, i32_w]
                                rfl
                              refine pure_ (i := 7) (N := some 56) (v := ?_) (a' := ?_) #[true, true, false, true, true, false, true, true, false, false, false, false, false] rfl rfl (any_of HT_.out (by kernel_rfl)) (fun _ _ _ h => h) (Or.inl ⟨by rfl, ?_⟩) ?_ ?_
                              rotate_left
                              · intro w'
                                go_simp
                                with_reducible rfl
                              rotate_left
                              · simp only [Act.put, List.setIfInBounds_toArray, List.set_cons_zero, List.set_cons_succ, i64_w, i32_w]
                                rfl
                              refine take_ (i := 2) (N := some 51) (v := ?_) (a' := ?_) #[true, true, true, true, true, false, true, true, false, false, false, false, false] rfl rfl (take_ofW HT_.out HW_.out (by kernel_rfl)) (fun _ _ _ h => h) (Or.inl ⟨by rfl, ?_⟩) hHeld ?_ ?_
                              rotate_left
                              · rintro w' ⟨s0, s1, s2⟩
                                go_simp
                                with_reducible rfl
                              rotate_left
                              · simp only [Act.put, List.setIfInBounds_toArray, List.set_cons_zero, List.set_cons_succ, i64_w, i32_w]
                                rfl
                              refine take_ (i := 5) (N := some 54) (v := ?_) (a' := ?_) #[true, true, true, true, true, true, true, true, false, false, false, false, false] rfl rfl (take_ofW HT_.out HW_.out (by kernel_rfl)) (fun _ _ _ h => h) (Or.inl ⟨by rfl, ?_⟩) hHeld ?_ ?_
                              rotate_left
                              · rintro w' ⟨s0, s1, s2⟩
                                go_simp
                                with_reducible rfl
                              rotate_left
                              · simp only [Act.put, List.setIfInBounds_toArray, List.set_cons_zero, List.set_cons_succ, i64_w, i32_w]
                                rfl
                              refine take_ (i := 8) (N := some 57) (v := ?_) (a' := ?_) #[true, true, true, true, true, true, true, true, true, false, false, false, false] rfl rfl (take_ofW HT_.out HW_.out (by kernel_rfl)) (fun _ _ _ h => h) (Or.inl ⟨by rfl, ?_⟩) hHeld ?_ ?_
                              rotate_left
                              · rintro w' ⟨s0, s1, s2⟩
                                go_simp
                                with_reducible rfl
                              rotate_left
                              · simp only [Act.put, List.setIfInBounds_toArray, List.set_cons_zero, List.set_cons_succ, i64_w, i32_w]
                                rfl
                              refine pure_ (i := 9) (N := some 58) (v := ?_) (a' := ?_) #[true, true, true, true, true, true, true, true, true, true, false, false, false] rfl rfl (any_of HT_.out (by kernel_rfl)) (fun _ _ _ h => h) (Or.inl ⟨by rfl, ?_⟩) ?_ ?_
                              rotate_left
                              · intro w'
                                go_simp
                                with_reducible rfl
                              rotate_left
                              · simp only [Act.put, List.setIfInBounds_toArray, List.set_cons_zero, List.set_cons_succ, i64_w, i32_w]
                                rfl
                              refine pure_ (i := 10) (N := some 59) (v := ?_) (a' := ?_) #[true, true, true, true, true, true, true, true, true, true, true, false, false] rfl rfl (any_of HT_.out (by kernel_rfl)) (fun _ _ _ h => h) (Or.inl ⟨by rfl, ?_⟩) ?_ ?_
                              rotate_left
                              · intro w'
                                go_simp
                                with_reducible rfl
                              rotate_left
                              · simp only [Act.put, List.setIfInBounds_toArray, List.set_cons_zero, List.set_cons_succ, i64_w, i32_w]
                                rfl
                              refine one_ (i := 11) (N := some 11) #[true, true, true, true, true, true, true, true, true, true, true, true, false] rfl rfl (one_of HT_.out (by kernel_rfl)) (by decide) (fun K hK => ?_)
                              refine box_step ?hg (N := 11) ?hd (cs := #[.string (⟨#[]⟩ : ByteArray), .string (⟨#[]⟩ : ByteArray), .bool false]) (t := 51) ?hr ?_; (case hd => rfl); (case hg => rfl); (case hr => first | (go_simp; done) | (go_simp; rfl))
                              intro gb144 hg w28 hbox hb
                              have HS0_ := (hb.cell (World.block_lt_of_cell? _ _ (hHeld.1))).trans (hHeld.1)
                              have HS1_ := (hb.cell (World.block_lt_of_cell? _ _ (hHeld.2.1))).trans (hHeld.2.1)
                              have HS2_ := (hb.cell (World.block_lt_of_cell? _ _ (hHeld.2.2))).trans (hHeld.2.2)
                              have n0_ := Aside0.mk (Kd.R_below (Kd.R_elderB (by (with_reducible repeat (first | apply Kd.R_alloc | apply Kd.R_drewN | apply Kd.R_drew)); exact HO_6.out) gb144 (Nat.le_of_eq hg.symm)) hb)
                              have n1_ := Aside0.mk (Kd.R_below (by (with_reducible repeat (first | apply Kd.R_alloc | apply Kd.R_drewN | apply Kd.R_drew)); exact HO_9.out) hb)
                              have n2_ := Aside0.mk (Kd.R_below (by (with_reducible repeat (first | apply Kd.R_alloc | apply Kd.R_drewN | apply Kd.R_drew)); exact HO_19.out) hb)
                              have n3_ := Aside0.mk (below_step (by repeat (first | (with_reducible first | exact HB.out | apply below_alloc | apply pw_below_drewN | apply below_drew1) | exact HB.out)) hb)
                              have n4_ := Aside0.mk (hbox)
                              have n5_ := Aside0.mk ((by rw [hg]; exact (below_size (by repeat (first | (with_reducible first | exact HB.out | apply below_alloc | apply pw_below_drewN | apply below_drew1) | exact HB.out))) : w.heap.size ≤ gb144))
                              have n6_ := Aside0.mk ((by rw [hg]; exact (below_size (by repeat (first | (with_reducible first | exact HB.out | apply below_alloc | apply pw_below_drewN | apply below_drew1) | exact HB.out))) : w.heap.size ≤ gb144))
                              clear HO_6
                              clear HO_9
                              clear HO_19
                              clear HB
                              have HO_6 := n0_
                              have HO_9 := n1_
                              have HO_19 := n2_
                              have HB := n3_
                              have BK144 := n4_
                              have GW144 := n5_
                              have GE144 := n6_
                              clear n0_ n1_ n2_ n3_ n4_ n5_ n6_
                              clear hb hbox hg
                              refine hK.out _ _ ⟨HS0_, HS1_, HS2_⟩ (fun hHeld => ?_)
                              clear hK K
                              refine norm_ (a' := ?_) ?_ ?_
                              rotate_left
                              · show Act.put _ (some 11) _ = _
                                simp only [Act.put, List.setIfInBounds_toArray, List.set_cons_zero, List.set_cons_succ, i64_w, i32_w]
                                rfl
                              refine one_ (i := 12) (N := none) #[true, true, true, true, true, true, true, true, true, true, true, true, true] rfl rfl (one_of HT_.out (by kernel_rfl)) (by decide) (fun K hK => ?_)
                              have hs29 : w28.cell? ⟨gb144, 0, none⟩ = some (.string (⟨#[]⟩ : ByteArray)) := (blk_cell BK144.out 0).trans rfl
                              have hfs29 := blk_frozen BK144.out 0
                              have hs30 : w28.cell? ⟨gb144, 1, none⟩ = some (.string (⟨#[]⟩ : ByteArray)) := (blk_cell BK144.out 1).trans rfl
                              have hfs30 := blk_frozen BK144.out 1
                              have hs31 : w28.cell? ⟨gb144, 2, none⟩ = some (.bool false) := (blk_cell BK144.out 2).trans rfl
                              have hfs31 := blk_frozen BK144.out 2
                              refine skip_ (w1 := ?_) (by rfl) rfl ?_ ?_
                              rotate_left
                              · go_simp
                                rfl
                              refine hK.out _ _ ⟨((cell_far (p := ⟨gb144, _, none⟩) (by first | exact Kd.own_blk (Kd.R_ne HO_9.out BK144.out (by decide)) | (rw [add_block]; exact Kd.own_blk (Kd.R_ne HO_9.out BK144.out (by decide))) | (show (Addr.add _ _).block ≠ _; rw [add_block]; exact Kd.own_blk (Kd.R_ne HO_9.out BK144.out (by decide))) | (dsimp only; exact Kd.own_blk (Kd.R_ne HO_9.out BK144.out (by decide)))) _).trans (((cell_far (p := ⟨gb144, _, none⟩) (by first | exact Kd.own_blk (Kd.R_ne HO_9.out BK144.out (by decide)) | (rw [add_block]; exact Kd.own_blk (Kd.R_ne HO_9.out BK144.out (by decide))) | (show (Addr.add _ _).block ≠ _; rw [add_block]; exact Kd.own_blk (Kd.R_ne HO_9.out BK144.out (by decide))) | (dsimp only; exact Kd.own_blk (Kd.R_ne HO_9.out BK144.out (by decide)))) _).trans (((cell_far (p := ⟨gb144, _, none⟩) (by first | exact Kd.own_blk (Kd.R_ne HO_9.out BK144.out (by decide)) | (rw [add_block]; exact Kd.own_blk (Kd.R_ne HO_9.out BK144.out (by decide))) | (show (Addr.add _ _).block ≠ _; rw [add_block]; exact Kd.own_blk (Kd.R_ne HO_9.out BK144.out (by decide))) | (dsimp only; exact Kd.own_blk (Kd.R_ne HO_9.out BK144.out (by decide)))) _).trans (hHeld.1)))))), ((cell_far (p := ⟨gb144, _, none⟩) (by first | exact Kd.own_blk (Kd.R_ne HO_9.out BK144.out (by decide)) | (rw [add_block]; exact Kd.own_blk (Kd.R_ne HO_9.out BK144.out (by decide))) | (show (Addr.add _ _).block ≠ _; rw [add_block]; exact Kd.own_blk (Kd.R_ne HO_9.out BK144.out (by decide))) | (dsimp only; exact Kd.own_blk (Kd.R_ne HO_9.out BK144.out (by decide)))) _).trans (((cell_far (p := ⟨gb144, _, none⟩) (by first | exact Kd.own_blk (Kd.R_ne HO_9.out BK144.out (by decide)) | (rw [add_block]; exact Kd.own_blk (Kd.R_ne HO_9.out BK144.out (by decide))) | (show (Addr.add _ _).block ≠ _; rw [add_block]; exact Kd.own_blk (Kd.R_ne HO_9.out BK144.out (by decide))) | (dsimp only; exact Kd.own_blk (Kd.R_ne HO_9.out BK144.out (by decide)))) _).trans (((cell_far (p := ⟨gb144, _, none⟩) (by first | exact Kd.own_blk (Kd.R_ne HO_9.out BK144.out (by decide)) | (rw [add_block]; exact Kd.own_blk (Kd.R_ne HO_9.out BK144.out (by decide))) | (show (Addr.add _ _).block ≠ _; rw [add_block]; exact Kd.own_blk (Kd.R_ne HO_9.out BK144.out (by decide))) | (dsimp only; exact Kd.own_blk (Kd.R_ne HO_9.out BK144.out (by decide)))) _).trans (hHeld.2.1)))))), ((cell_far (p := ⟨gb144, _, none⟩) (by first | exact Kd.own_blk (Kd.R_ne HO_9.out BK144.out (by decide)) | (rw [add_block]; exact Kd.own_blk (Kd.R_ne HO_9.out BK144.out (by decide))) | (show (Addr.add _ _).block ≠ _; rw [add_block]; exact Kd.own_blk (Kd.R_ne HO_9.out BK144.out (by decide))) | (dsimp only; exact Kd.own_blk (Kd.R_ne HO_9.out BK144.out (by decide)))) _).trans (((cell_far (p := ⟨gb144, _, none⟩) (by first | exact Kd.own_blk (Kd.R_ne HO_9.out BK144.out (by decide)) | (rw [add_block]; exact Kd.own_blk (Kd.R_ne HO_9.out BK144.out (by decide))) | (show (Addr.add _ _).block ≠ _; rw [add_block]; exact Kd.own_blk (Kd.R_ne HO_9.out BK144.out (by decide))) | (dsimp only; exact Kd.own_blk (Kd.R_ne HO_9.out BK144.out (by decide)))) _).trans (((cell_far (p := ⟨gb144, _, none⟩) (by first | exact Kd.own_blk (Kd.R_ne HO_9.out BK144.out (by decide)) | (rw [add_block]; exact Kd.own_blk (Kd.R_ne HO_9.out BK144.out (by decide))) | (show (Addr.add _ _).block ≠ _; rw [add_block]; exact Kd.own_blk (Kd.R_ne HO_9.out BK144.out (by decide))) | (dsimp only; exact Kd.own_blk (Kd.R_ne HO_9.out BK144.out (by decide)))) _).trans (hHeld.2.2))))))⟩ (fun hHeld => ?_)
                              clear hK K
                              refine done_ (done_of HT_.out (by kernel_rfl)) ?_
                              have hcz32_0 : w28.cell? ⟨gb144, 0, none⟩ = some (.string (⟨#[]⟩ : ByteArray)) := (blk_cell BK144.out 0).trans rfl
                              have hcz32_1 : w28.cell? ⟨gb144, 1, none⟩ = some (.string (⟨#[]⟩ : ByteArray)) := (blk_cell BK144.out 1).trans rfl
                              have hcz32_2 : w28.cell? ⟨gb144, 2, none⟩ = some (.bool false) := (blk_cell BK144.out 2).trans rfl
                              have hfz32_0 := blk_frozen BK144.out 0
                              have hfz32_1 := blk_frozen BK144.out 1
                              have hfz32_2 := blk_frozen BK144.out 2
                              try go_wp2_with (first | ((with_reducible refine gate_callee (f := 37) rfl ?_); refine goesL_ (some 61) rfl rfl Tryz.func37 (by kernel_rfl) rfl #[.agg #[.string (rdOf ByteArray.empty t135 0), .string (rdOf ByteArray.empty t135 2), .bool ((rdOf ByteArray.empty t135 1).toList == ([49] : List UInt8))]] rfl (by (try simp only [List.map_toArray, List.map_cons, List.map_nil]); first | done | rfl | (simp only [List.length_drop, List.length_take]; rfl)) ?_; (with_reducible refine (shelf_is.calls (rdOf ByteArray.empty t135 0) (rdOf ByteArray.empty t135 2) ((rdOf ByteArray.empty t135 1).toList == ([49] : List UInt8)) true _ A23.out (gl_below HG.out (by repeat (first | (with_reducible first | exact HB.out | apply below_alloc | apply pw_below_drewN | apply below_drew1 | refine below_set ?_ GE144.out) | exact HB.out)))).mono ?_); rintro e w33 ⟨rfl, hb⟩; refine ⟨_, rfl, ?_⟩; have n0_ := Aside0.mk (Kd.R_below (by (with_reducible repeat (first | apply Kd.R_alloc | apply Kd.R_drewN | apply Kd.R_drew)); exact (Kd.R_mono (Kd.R_far (p := ⟨gb144, 2, none⟩) (Kd.R_far (p := ⟨gb144, 1, none⟩) (Kd.R_far (p := ⟨gb144, 0, none⟩) (Kd.R_mono HO_6.out (fun k_ hk => (⟨hk, hk.2⟩ : _ ∧ k_ ≠ gb144))) (fun _ hk => hk.2) (.string (rdOf ByteArray.empty t135 0))) (fun _ hk => hk.2) (.string (rdOf ByteArray.empty t135 2))) (fun _ hk => hk.2) (.bool ((rdOf ByteArray.empty t135 1).toList == ([49] : List UInt8)))) (fun _ h_ => h_.1))) hb); have n1_ := Aside0.mk (Kd.R_below (by (with_reducible repeat (first | apply Kd.R_alloc | apply Kd.R_drewN | apply Kd.R_drew)); exact (Kd.R_mono (Kd.R_far (p := ⟨gb144, 2, none⟩) (Kd.R_far (p := ⟨gb144, 1, none⟩) (Kd.R_far (p := ⟨gb144, 0, none⟩) (Kd.R_types HO_9.out BK144.out (by decide)) (fun _ hk => hk.2) (.string (rdOf ByteArray.empty t135 0))) (fun _ hk => hk.2) (.string (rdOf ByteArray.empty t135 2))) (fun _ hk => hk.2) (.bool ((rdOf ByteArray.empty t135 1).toList == ([49] : List UInt8)))) (fun _ h_ => h_.1))) hb); have n2_ := Aside0.mk (Kd.R_below (by (with_reducible repeat (first | apply Kd.R_alloc | apply Kd.R_drewN | apply Kd.R_drew)); exact (Kd.R_mono (Kd.R_far (p := ⟨gb144, 2, none⟩) (Kd.R_far (p := ⟨gb144, 1, none⟩) (Kd.R_far (p := ⟨gb144, 0, none⟩) (Kd.R_types HO_19.out BK144.out (by decide)) (fun _ hk => hk.2) (.string (rdOf ByteArray.empty t135 0))) (fun _ hk => hk.2) (.string (rdOf ByteArray.empty t135 2))) (fun _ hk => hk.2) (.bool ((rdOf ByteArray.empty t135 1).toList == ([49] : List UInt8)))) (fun _ h_ => h_.1))) hb); have n3_ := Aside0.mk (blk_below (g := gb144) (o := .cells #[.string (rdOf ByteArray.empty t135 0), .string (rdOf ByteArray.empty t135 2), .bool ((rdOf ByteArray.empty t135 1).toList == ([49] : List UInt8))] 51 (0, 0)) (by (with_reducible repeat (first | refine blk_drewN ?_ _ | refine blk_drew ?_ | refine blk_alloc ?_ _)); refine blk_put (cs := #[.string (rdOf ByteArray.empty t135 0), .string (rdOf ByteArray.empty t135 2), .bool false]) ?_ 2 _ rfl; (with_reducible repeat (first | refine blk_drewN ?_ _ | refine blk_drew ?_ | refine blk_alloc ?_ _)); refine blk_put (cs := #[.string (rdOf ByteArray.empty t135 0), .string (⟨#[]⟩ : ByteArray), .bool false]) ?_ 1 _ rfl; (with_reducible repeat (first | refine blk_drewN ?_ _ | refine blk_drew ?_ | refine blk_alloc ?_ _)); refine blk_put (cs := #[.string (⟨#[]⟩ : ByteArray), .string (⟨#[]⟩ : ByteArray), .bool false]) ?_ 0 _ rfl; (with_reducible repeat (first | refine blk_drewN ?_ _ | refine blk_drew ?_ | refine blk_alloc ?_ _)); exact BK144.out) hb); have n4_ := Aside0.mk (below_step (by repeat (first | (with_reducible first | exact HB.out | apply below_alloc | apply pw_below_drewN | apply below_drew1 | refine below_set ?_ GE144.out) | exact HB.out)) hb); clear HO_6; clear HO_9; clear HO_19; clear BK144; clear HB; have HO_6 := n0_; have HO_9 := n1_; have HO_19 := n2_; have BK144 := n3_; have HB := n4_; clear n0_ n1_ n2_ n3_ n4_; (try clear hb); (try clear hb2); (try clear hk); (try clear hi); have hcz34_0 : w33.cell? ⟨gb144, 0, none⟩ = some (.string (rdOf ByteArray.empty t135 0)) := (blk_cell BK144.out 0).trans rfl; have hcz34_1 : w33.cell? ⟨gb144, 1, none⟩ = some (.string (rdOf ByteArray.empty t135 2)) := (blk_cell BK144.out 1).trans rfl; have hcz34_2 : w33.cell? ⟨gb144, 2, none⟩ = some (.bool ((rdOf ByteArray.empty t135 1).toList == ([49] : List UInt8))) := (blk_cell BK144.out 2).trans rfl; have hfz34_0 := blk_frozen BK144.out 0; have hfz34_1 := blk_frozen BK144.out 1; have hfz34_2 := blk_frozen BK144.out 2) | ((with_reducible refine gate_builtin (b := .append) (xs := #[.tmp 63, .tmp 65]) rfl ?_); (try (refine gate_guard (by rfl) ?_; dsimp only)); at_builtin; refine Kd.R_append k51 (w0 := w) w.heap.size rfl (.tmp 63) (.tmp 65) 22 51 (.agg #[(.string ⟨#[]⟩), (.string ⟨#[]⟩), (.bool false)]) 40 rfl Tryz.underlying22 info51 rfl (by decide) (by omega) u6 x6_1 (⟨rdOf ByteArray.empty t135 0, rdOf ByteArray.empty t135 2, ((rdOf ByteArray.empty t135 1).toList == ([49] : List UInt8))⟩ : S51) [.string (rdOf ByteArray.empty t135 0), .string (rdOf ByteArray.empty t135 2), .bool ((rdOf ByteArray.empty t135 1).toList == ([49] : List UInt8))] (fun k_ => k_ ≠ gb144) (fun _ => False) rfl rfl ?aP (fun _ hk => hk.elim) ?aF ?aO ?aB ?aS ?aL ?_; (case aP => exact k51_mkM _ _ _ (⟨rdOf ByteArray.empty t135 0, rdOf ByteArray.empty t135 2, ((rdOf ByteArray.empty t135 1).toList == ([49] : List UInt8))⟩ : S51)); (case aB => exact (by repeat (first | (with_reducible first | exact HB.out | apply below_alloc | apply pw_below_drewN | apply below_drew1 | refine below_set ?_ GE144.out) | exact HB.out))); (case aF => exact (fun k_ hk => Kd.freshB (g := gb144) (o := .cells #[.string (rdOf ByteArray.empty t135 0), .string (rdOf ByteArray.empty t135 2), .bool ((rdOf ByteArray.empty t135 1).toList == ([49] : List UInt8))] 51 (0, 0)) (by (with_reducible repeat (first | refine blk_drewN ?_ _ | refine blk_drew ?_ | refine blk_alloc ?_ _)); exact BK144.out) k_ hk)); (case aO => exact (by (with_reducible repeat (first | apply Kd.R_alloc | apply Kd.R_drewN | apply Kd.R_drew)); exact Kd.R_mono HO_6.out (fun _ hk => hk.2))); (case aS => exact (below_size (by repeat (first | (with_reducible first | exact HB.out | apply below_alloc | apply pw_below_drewN | apply below_drew1 | refine below_set ?_ GE144.out) | exact HB.out)))); (case aL => have := LMc25.out; omega); intro v147 w35 ho hb hg hat; rw [← Ny146.out] at ho; have n0_ := Aside0.mk (Kd.R_over' (by (with_reducible repeat (first | apply Kd.R_alloc | apply Kd.R_drewN | apply Kd.R_drew)); exact HO_9.out) (Kd.R_typed (by (with_reducible repeat (first | apply Kd.R_alloc | apply Kd.R_drewN | apply Kd.R_drew)); exact HO_6.out)) (by decide) hg); have n1_ := Aside0.mk (Kd.R_over' (by (with_reducible repeat (first | apply Kd.R_alloc | apply Kd.R_drewN | apply Kd.R_drew)); exact HO_19.out) (Kd.R_typed (by (with_reducible repeat (first | apply Kd.R_alloc | apply Kd.R_drewN | apply Kd.R_drew)); exact HO_6.out)) (by decide) hg); have n2_ := Aside0.mk (blk_grown (g := gb144) (o := .cells #[.string (rdOf ByteArray.empty t135 0), .string (rdOf ByteArray.empty t135 2), .bool ((rdOf ByteArray.empty t135 1).toList == ([49] : List UInt8))] 51 (0, 0)) (by (with_reducible repeat (first | refine blk_drewN ?_ _ | refine blk_drew ?_ | refine blk_alloc ?_ _)); exact BK144.out) hg (Kd.R_away HO_6.out (fun _ hk => hk.2))); have n3_ := Aside0.mk (hb); have n4_ := Aside0.mk (ho); clear HO_9; clear HO_19; clear BK144; clear HB; clear HO_6; have HO_9 := n0_; have HO_19 := n1_; have BK144 := n2_; have HB := n3_; have HO148 := n4_; clear n0_ n1_ n2_ n3_ n4_; clear ho hb hg hat))
                              go_roundg kj9
                              case measure => have := HK1.out; have := HJ9.out; omega
                              case rel => exact ⟨(y146), (wrap64 (x21_1 + 1)), (by first | rfl | (simp; done) | (simp [*]; done)), H', ⟨by have := HK1.out; have := HJ9.out; omega⟩, ⟨by (with_reducible repeat (first | apply Kd.R_alloc | apply Kd.R_drewN | apply Kd.R_drew)); exact Kd.R_mono HO148.out (fun _ hk => trivial)⟩, ⟨by (with_reducible repeat (first | apply Kd.R_alloc | apply Kd.R_drewN | apply Kd.R_drew)); exact Kd.R_mono HO_19.out (fun _ hk => trivial)⟩, ⟨by repeat (first | (with_reducible first | exact HB.out | apply below_alloc | apply pw_below_drewN | apply below_drew1 | refine below_set ?_ GE144.out) | exact HB.out)⟩⟩
                            · rw [if_neg c25] at H
                              exact absurd H (by simp)
                          · replace c24 := Bool.eq_false_iff.mpr c24
                            subst c24
                            have H1 : (some (([] : List (S51)), false)) = some (r1, r2) := by rw [if_neg (show ¬ (false = true) by decide)] at H; exact H
                            clear H
                            have H := H1
                            clear H1
                            simp only [Option.some.injEq, Prod.mk.injEq] at H
                            obtain ⟨rfl, rfl⟩ := H
                            try go_wp2
                            have n0_ := Aside0.mk (Kd.R_drew HO_6.out)
                            have n1_ := Aside0.mk (Kd.R_drew HO_9.out)
                            have n2_ := Aside0.mk (Kd.R_drew HO_19.out)
                            have n3_ := Aside0.mk (below_drew1 HB.out)
                            clear HO_6
                            clear HO_9
                            clear HO_19
                            clear HB
                            have HO_6 := n0_
                            have HO_9 := n1_
                            have HO_19 := n2_
                            have HB := n3_
                            clear n0_ n1_ n2_ n3_
                            obtain ⟨Ao37, co37, eo37⟩ := Kd.R_slice HO_9.out
                            (first | subst eo37 | (injection eo37 with f1_ f2_ f3_; have f4_ := f1_.symm; have f5_ := f3_.symm; clear f1_ f2_ f3_; subst f4_; subst f5_))
                            have p141 : 0 ≤ (0 : Int) := (by omega)
                            have q141 : 0 < (t135.length : Int) := of_decide_eq_true (by first | (with_reducible assumption) | assumption)
                            obtain ⟨ad141, e141, hx141_0⟩ := Kd.at_string (Kd.R_reads' HO_9.out).2.2 0 p141 q141
                            cases e141
                            have qi141 : (0 < t135.length) = True := eq_true (by omega)
                            (try rw [show ((0 : Int)).toNat = 0 from rfl] at hx141_0)
                            (try rw [Addr.add_zero'] at hx141_0)
                            replace p141 := eq_true p141
                            replace q141 := eq_true q141
                            have p142 : 0 ≤ (2 : Int) := (by omega)
                            have q142 : 2 < (t135.length : Int) := of_decide_eq_true (by first | (with_reducible assumption) | assumption)
                            obtain ⟨ad142, e142, hx142_0⟩ := Kd.at_string (Kd.R_reads' HO_9.out).2.2 2 p142 q142
                            obtain rfl : ad141 = ad142 := (by injection e142)
                            (try simp only [show (2 : Int).toNat = 2 from rfl, Nat.reduceMul, Nat.reduceEqDiff, Go.Addr.add, ↓reduceIte] at hx142_0)
                            have qi142 : (2 < t135.length) = True := eq_true (by omega)
                            (try rw [show ((2 : Int)).toNat = 2 from rfl] at hx142_0)
                            replace p142 := eq_true p142
                            replace q142 := eq_true q142
                            have p143 : 0 ≤ (1 : Int) := (by omega)
                            have q143 : 1 < (t135.length : Int) := of_decide_eq_true (by first | (with_reducible assumption) | assumption)
                            obtain ⟨ad143, e143, hx143_0⟩ := Kd.at_string (Kd.R_reads' HO_9.out).2.2 1 p143 q143
                            obtain rfl : ad141 = ad143 := (by injection e143)
                            (try simp only [show (1 : Int).toNat = 1 from rfl, Nat.reduceMul, Nat.reduceEqDiff, Go.Addr.add, ↓reduceIte] at hx143_0)
                            have qi143 : (1 < t135.length) = True := eq_true (by omega)
                            (try rw [show ((1 : Int)).toNat = 1 from rfl] at hx143_0)
                            replace p143 := eq_true p143
                            replace q143 := eq_true q143
                            refine start_ (n := 13) (S := fun w' => w'.cell? ad141 = some (.string (rdOf ByteArray.empty t135 0)) ∧ w'.cell? ⟨ad141.block, ad141.off + 2, none⟩ = some (.string (rdOf ByteArray.empty t135 2)) ∧ w'.cell? ⟨ad141.block, ad141.off + 1, none⟩ = some (.string (rdOf ByteArray.empty t135 1))) (ds := []) #[false, false, false, false, false, false, false, false, false, false, false, false, false] (by kernel_rfl) rfl rfl ⟨hx141_0, hx142_0, hx143_0⟩ (fun hHeld => ?_); refine with_tabW shelf_read.tab11 shelf_read.bits11 (fun HT_ HW_ => ?_)
                            generalize wc.drew = w36 at HO_6 HO_9 HO_19 HB hx141_0 hx142_0 hx143_0 hHeld ⊢
                            refine pure_ (i := 0) (N := some 49) (v := ?_) (a' := ?_) #[true, false, false, false, false, false, false, false, false, false, false, false, false] rfl rfl (any_of HT_.out (by kernel_rfl)) (fun _ _ _ h => h) (Or.inl ⟨by rfl, ?_⟩) ?_ ?_
                            rotate_left
                            · intro w'
                              go_simp
                              with_reducible rfl
                            rotate_left
                            · simp only [Act.put, List.setIfInBounds_toArray, List.set_cons_zero, List.set_cons_succ, i64_w, i32_w]
                              rfl
                            refine pure_ (i := 1) (N := some 50) (v := ?_) (a' := ?_) #[true, true, false, false, false, false, false, false, false, false, false, false, false] rfl rfl (any_of HT_.out (by kernel_rfl)) (fun _ _ _ h => h) (Or.inl ⟨by rfl, ?_⟩) ?_ ?_
                            rotate_left
                            · intro w'
                              go_simp
                              with_reducible rfl
                            rotate_left
                            · simp only [Act.put, List.setIfInBounds_toArray, List.set_cons_zero, List.set_cons_succ, i64_w, i32_w]
                              rfl
                            refine pure_ (i := 3) (N := some 52) (v := ?_) (a' := ?_) #[true, true, false, true, false, false, false, false, false, false, false, false, false] rfl rfl (any_of HT_.out (by kernel_rfl)) (fun _ _ _ h => h) (Or.inl ⟨by rfl, ?_⟩) ?_ ?_
                            rotate_left
                            · intro w'
                              go_simp
                              with_reducible rfl
                            rotate_left
                            · simp only [Act.put, List.setIfInBounds_toArray, List.set_cons_zero, List.set_cons_succ, i64_w, i32_w]
                              rfl
                            refine pure_ (i := 4) (N := some 53) (v := ?_) (a' := ?_) #[true, true, false, true, true, false, false, false, false, false, false, false, false] rfl rfl (any_of HT_.out (by kernel_rfl)) (fun _ _ _ h => h) (Or.inl ⟨by rfl, ?_⟩) ?_ ?_
                            rotate_left
                            · intro w'
                              go_simp
                              with_reducible rfl
                            rotate_left
                            · simp only [Act.put, List.setIfInBounds_toArray, List.set_cons_zero, List.set_cons_succ, i64_w, i32_w]
                              rfl
                            refine pure_ (i := 6) (N := some 55) (v := ?_) (a' := ?_) #[true, true, false, true, true, false, true, false, false, false, false, false, false] rfl rfl (any_of HT_.out (by kernel_rfl)) (fun _ _ _ h => h) (Or.inl ⟨by rfl, ?_⟩) ?_ ?_
                            rotate_left
                            · intro w'
                              go_simp
                              with_reducible rfl
                            rotate_left
                            · simp only [Act.put, List.setIfInBounds_toArray, List.set_cons_zero, List.set_cons_succ, i64_w, i32_w]
                              rfl
                            refine pure_ (i := 7) (N := some 56) (v := ?_) (a' := ?_) #[true, true, false, true, true, false, true, true, false, false, false, false, false] rfl rfl (any_of HT_.out (by kernel_rfl)) (fun _ _ _ h => h) (Or.inl ⟨by rfl, ?_⟩) ?_ ?_
                            rotate_left
                            · intro w'
                              go_simp
                              with_reducible rfl
                            rotate_left
                            · simp only [Act.put, List.setIfInBounds_toArray, List.set_cons_zero, List.set_cons_succ, i64_w, i32_w]
                              rfl
                            refine take_ (i := 2) (N := some 51) (v := ?_) (a' := ?_) #[true, true, true, true, true, false, true, true, false, false, false, false, false] rfl rfl (take_ofW HT_.out HW_.out (by kernel_rfl)) (fun _ _ _ h => h) (Or.inl ⟨by rfl, ?_⟩) hHeld ?_ ?_
                            rotate_left
                            · rintro w' ⟨s0, s1, s2⟩
                              go_simp
                              with_reducible rfl
                            rotate_left
                            · simp only [Act.put, List.setIfInBounds_toArray, List.set_cons_zero, List.set_cons_succ, i64_w, i32_w]
                              rfl
                            refine take_ (i := 5) (N := some 54) (v := ?_) (a' := ?_) #[true, true, true, true, true, true, true, true, false, false, false, false, false] rfl rfl (take_ofW HT_.out HW_.out (by kernel_rfl)) (fun _ _ _ h => h) (Or.inl ⟨by rfl, ?_⟩) hHeld ?_ ?_
                            rotate_left
                            · rintro w' ⟨s0, s1, s2⟩
                              go_simp
                              with_reducible rfl
                            rotate_left
                            · simp only [Act.put, List.setIfInBounds_toArray, List.set_cons_zero, List.set_cons_succ, i64_w, i32_w]
                              rfl
                            refine take_ (i := 8) (N := some 57) (v := ?_) (a' := ?_) #[true, true, true, true, true, true, true, true, true, false, false, false, false] rfl rfl (take_ofW HT_.out HW_.out (by kernel_rfl)) (fun _ _ _ h => h) (Or.inl ⟨by rfl, ?_⟩) hHeld ?_ ?_
                            rotate_left
                            · rintro w' ⟨s0, s1, s2⟩
                              go_simp
                              with_reducible rfl
                            rotate_left
                            · simp only [Act.put, List.setIfInBounds_toArray, List.set_cons_zero, List.set_cons_succ, i64_w, i32_w]
                              rfl
                            refine pure_ (i := 9) (N := some 58) (v := ?_) (a' := ?_) #[true, true, true, true, true, true, true, true, true, true, false, false, false] rfl rfl (any_of HT_.out (by kernel_rfl)) (fun _ _ _ h => h) (Or.inl ⟨by rfl, ?_⟩) ?_ ?_
                            rotate_left
                            · intro w'
                              go_simp
                              with_reducible rfl
                            rotate_left
                            · simp only [Act.put, List.setIfInBounds_toArray, List.set_cons_zero, List.set_cons_succ, i64_w, i32_w]
                              rfl
                            refine pure_ (i := 10) (N := some 59) (v := ?_) (a' := ?_) #[true, true, true, true, true, true, true, true, true, true, true, false, false] rfl rfl (any_of HT_.out (by kernel_rfl)) (fun _ _ _ h => h) (Or.inl ⟨by rfl, ?_⟩) ?_ ?_
                            rotate_left
                            · intro w'
                              go_simp
                              with_reducible rfl
                            rotate_left
                            · simp only [Act.put, List.setIfInBounds_toArray, List.set_cons_zero, List.set_cons_succ, i64_w, i32_w]
                              rfl
                            refine one_ (i := 11) (N := some 11) #[true, true, true, true, true, true, true, true, true, true, true, true, false] rfl rfl (one_of HT_.out (by kernel_rfl)) (by decide) (fun K hK => ?_)
                            refine box_step ?hg (N := 11) ?hd (cs := #[.string (⟨#[]⟩ : ByteArray), .string (⟨#[]⟩ : ByteArray), .bool false]) (t := 51) ?hr ?_; (case hd => rfl); (case hg => rfl); (case hr => first | (go_simp; done) | (go_simp; rfl))
                            intro gb144 hg w38 hbox hb
                            have HS0_ := (hb.cell (World.block_lt_of_cell? _ _ (hHeld.1))).trans (hHeld.1)
                            have HS1_ := (hb.cell (World.block_lt_of_cell? _ _ (hHeld.2.1))).trans (hHeld.2.1)
                            have HS2_ := (hb.cell (World.block_lt_of_cell? _ _ (hHeld.2.2))).trans (hHeld.2.2)
                            have n0_ := Aside0.mk (Kd.R_below (Kd.R_elderB (by (with_reducible repeat (first | apply Kd.R_alloc | apply Kd.R_drewN | apply Kd.R_drew)); exact HO_6.out) gb144 (Nat.le_of_eq hg.symm)) hb)
                            have n1_ := Aside0.mk (Kd.R_below (by (with_reducible repeat (first | apply Kd.R_alloc | apply Kd.R_drewN | apply Kd.R_drew)); exact HO_9.out) hb)
                            have n2_ := Aside0.mk (Kd.R_below (by (with_reducible repeat (first | apply Kd.R_alloc | apply Kd.R_drewN | apply Kd.R_drew)); exact HO_19.out) hb)
                            have n3_ := Aside0.mk (below_step (by repeat (first | (with_reducible first | exact HB.out | apply below_alloc | apply pw_below_drewN | apply below_drew1) | exact HB.out)) hb)
                            have n4_ := Aside0.mk (hbox)
                            have n5_ := Aside0.mk ((by rw [hg]; exact (below_size (by repeat (first | (with_reducible first | exact HB.out | apply below_alloc | apply pw_below_drewN | apply below_drew1) | exact HB.out))) : w.heap.size ≤ gb144))
                            have n6_ := Aside0.mk ((by rw [hg]; exact (below_size (by repeat (first | (with_reducible first | exact HB.out | apply below_alloc | apply pw_below_drewN | apply below_drew1) | exact HB.out))) : w.heap.size ≤ gb144))
                            clear HO_6
                            clear HO_9
                            clear HO_19
                            clear HB
                            have HO_6 := n0_
                            have HO_9 := n1_
                            have HO_19 := n2_
                            have HB := n3_
                            have BK144 := n4_
                            have GW144 := n5_
                            have GE144 := n6_
                            clear n0_ n1_ n2_ n3_ n4_ n5_ n6_
                            clear hb hbox hg
                            refine hK.out _ _ ⟨HS0_, HS1_, HS2_⟩ (fun hHeld => ?_)
                            clear hK K
                            refine norm_ (a' := ?_) ?_ ?_
                            rotate_left
                            · show Act.put _ (some 11) _ = _
                              simp only [Act.put, List.setIfInBounds_toArray, List.set_cons_zero, List.set_cons_succ, i64_w, i32_w]
                              rfl
                            refine one_ (i := 12) (N := none) #[true, true, true, true, true, true, true, true, true, true, true, true, true] rfl rfl (one_of HT_.out (by kernel_rfl)) (by decide) (fun K hK => ?_)
                            have hs39 : w38.cell? ⟨gb144, 0, none⟩ = some (.string (⟨#[]⟩ : ByteArray)) := (blk_cell BK144.out 0).trans rfl
                            have hfs39 := blk_frozen BK144.out 0
                            have hs40 : w38.cell? ⟨gb144, 1, none⟩ = some (.string (⟨#[]⟩ : ByteArray)) := (blk_cell BK144.out 1).trans rfl
                            have hfs40 := blk_frozen BK144.out 1
                            have hs41 : w38.cell? ⟨gb144, 2, none⟩ = some (.bool false) := (blk_cell BK144.out 2).trans rfl
                            have hfs41 := blk_frozen BK144.out 2
                            refine skip_ (w1 := ?_) (by rfl) rfl ?_ ?_
                            rotate_left
                            · go_simp
                              rfl
                            refine hK.out _ _ ⟨((cell_far (p := ⟨gb144, _, none⟩) (by first | exact Kd.own_blk (Kd.R_ne HO_9.out BK144.out (by decide)) | (rw [add_block]; exact Kd.own_blk (Kd.R_ne HO_9.out BK144.out (by decide))) | (show (Addr.add _ _).block ≠ _; rw [add_block]; exact Kd.own_blk (Kd.R_ne HO_9.out BK144.out (by decide))) | (dsimp only; exact Kd.own_blk (Kd.R_ne HO_9.out BK144.out (by decide)))) _).trans (((cell_far (p := ⟨gb144, _, none⟩) (by first | exact Kd.own_blk (Kd.R_ne HO_9.out BK144.out (by decide)) | (rw [add_block]; exact Kd.own_blk (Kd.R_ne HO_9.out BK144.out (by decide))) | (show (Addr.add _ _).block ≠ _; rw [add_block]; exact Kd.own_blk (Kd.R_ne HO_9.out BK144.out (by decide))) | (dsimp only; exact Kd.own_blk (Kd.R_ne HO_9.out BK144.out (by decide)))) _).trans (((cell_far (p := ⟨gb144, _, none⟩) (by first | exact Kd.own_blk (Kd.R_ne HO_9.out BK144.out (by decide)) | (rw [add_block]; exact Kd.own_blk (Kd.R_ne HO_9.out BK144.out (by decide))) | (show (Addr.add _ _).block ≠ _; rw [add_block]; exact Kd.own_blk (Kd.R_ne HO_9.out BK144.out (by decide))) | (dsimp only; exact Kd.own_blk (Kd.R_ne HO_9.out BK144.out (by decide)))) _).trans (hHeld.1)))))), ((cell_far (p := ⟨gb144, _, none⟩) (by first | exact Kd.own_blk (Kd.R_ne HO_9.out BK144.out (by decide)) | (rw [add_block]; exact Kd.own_blk (Kd.R_ne HO_9.out BK144.out (by decide))) | (show (Addr.add _ _).block ≠ _; rw [add_block]; exact Kd.own_blk (Kd.R_ne HO_9.out BK144.out (by decide))) | (dsimp only; exact Kd.own_blk (Kd.R_ne HO_9.out BK144.out (by decide)))) _).trans (((cell_far (p := ⟨gb144, _, none⟩) (by first | exact Kd.own_blk (Kd.R_ne HO_9.out BK144.out (by decide)) | (rw [add_block]; exact Kd.own_blk (Kd.R_ne HO_9.out BK144.out (by decide))) | (show (Addr.add _ _).block ≠ _; rw [add_block]; exact Kd.own_blk (Kd.R_ne HO_9.out BK144.out (by decide))) | (dsimp only; exact Kd.own_blk (Kd.R_ne HO_9.out BK144.out (by decide)))) _).trans (((cell_far (p := ⟨gb144, _, none⟩) (by first | exact Kd.own_blk (Kd.R_ne HO_9.out BK144.out (by decide)) | (rw [add_block]; exact Kd.own_blk (Kd.R_ne HO_9.out BK144.out (by decide))) | (show (Addr.add _ _).block ≠ _; rw [add_block]; exact Kd.own_blk (Kd.R_ne HO_9.out BK144.out (by decide))) | (dsimp only; exact Kd.own_blk (Kd.R_ne HO_9.out BK144.out (by decide)))) _).trans (hHeld.2.1)))))), ((cell_far (p := ⟨gb144, _, none⟩) (by first | exact Kd.own_blk (Kd.R_ne HO_9.out BK144.out (by decide)) | (rw [add_block]; exact Kd.own_blk (Kd.R_ne HO_9.out BK144.out (by decide))) | (show (Addr.add _ _).block ≠ _; rw [add_block]; exact Kd.own_blk (Kd.R_ne HO_9.out BK144.out (by decide))) | (dsimp only; exact Kd.own_blk (Kd.R_ne HO_9.out BK144.out (by decide)))) _).trans (((cell_far (p := ⟨gb144, _, none⟩) (by first | exact Kd.own_blk (Kd.R_ne HO_9.out BK144.out (by decide)) | (rw [add_block]; exact Kd.own_blk (Kd.R_ne HO_9.out BK144.out (by decide))) | (show (Addr.add _ _).block ≠ _; rw [add_block]; exact Kd.own_blk (Kd.R_ne HO_9.out BK144.out (by decide))) | (dsimp only; exact Kd.own_blk (Kd.R_ne HO_9.out BK144.out (by decide)))) _).trans (((cell_far (p := ⟨gb144, _, none⟩) (by first | exact Kd.own_blk (Kd.R_ne HO_9.out BK144.out (by decide)) | (rw [add_block]; exact Kd.own_blk (Kd.R_ne HO_9.out BK144.out (by decide))) | (show (Addr.add _ _).block ≠ _; rw [add_block]; exact Kd.own_blk (Kd.R_ne HO_9.out BK144.out (by decide))) | (dsimp only; exact Kd.own_blk (Kd.R_ne HO_9.out BK144.out (by decide)))) _).trans (hHeld.2.2))))))⟩ (fun hHeld => ?_)
                            clear hK K
                            refine done_ (done_of HT_.out (by kernel_rfl)) ?_
                            have hcz42_0 : w38.cell? ⟨gb144, 0, none⟩ = some (.string (⟨#[]⟩ : ByteArray)) := (blk_cell BK144.out 0).trans rfl
                            have hcz42_1 : w38.cell? ⟨gb144, 1, none⟩ = some (.string (⟨#[]⟩ : ByteArray)) := (blk_cell BK144.out 1).trans rfl
                            have hcz42_2 : w38.cell? ⟨gb144, 2, none⟩ = some (.bool false) := (blk_cell BK144.out 2).trans rfl
                            have hfz42_0 := blk_frozen BK144.out 0
                            have hfz42_1 := blk_frozen BK144.out 1
                            have hfz42_2 := blk_frozen BK144.out 2
                            try go_wp2_with (first | ((with_reducible refine gate_callee (f := 37) rfl ?_); refine goesL_ (some 61) rfl rfl Tryz.func37 (by kernel_rfl) rfl #[.agg #[.string (rdOf ByteArray.empty t135 0), .string (rdOf ByteArray.empty t135 2), .bool ((rdOf ByteArray.empty t135 1).toList == ([49] : List UInt8))]] rfl (by (try simp only [List.map_toArray, List.map_cons, List.map_nil]); first | done | rfl | (simp only [List.length_drop, List.length_take]; rfl)) ?_; (with_reducible refine (shelf_is.calls (rdOf ByteArray.empty t135 0) (rdOf ByteArray.empty t135 2) ((rdOf ByteArray.empty t135 1).toList == ([49] : List UInt8)) false _ A23.out (gl_below HG.out (by repeat (first | (with_reducible first | exact HB.out | apply below_alloc | apply pw_below_drewN | apply below_drew1 | refine below_set ?_ GE144.out) | exact HB.out)))).mono ?_); rintro e w43 ⟨rfl, hb⟩; refine ⟨_, rfl, ?_⟩; have n0_ := Aside0.mk (Kd.R_below (by (with_reducible repeat (first | apply Kd.R_alloc | apply Kd.R_drewN | apply Kd.R_drew)); exact (Kd.R_mono (Kd.R_far (p := ⟨gb144, 2, none⟩) (Kd.R_far (p := ⟨gb144, 1, none⟩) (Kd.R_far (p := ⟨gb144, 0, none⟩) (Kd.R_mono HO_6.out (fun k_ hk => (⟨hk, hk.2⟩ : _ ∧ k_ ≠ gb144))) (fun _ hk => hk.2) (.string (rdOf ByteArray.empty t135 0))) (fun _ hk => hk.2) (.string (rdOf ByteArray.empty t135 2))) (fun _ hk => hk.2) (.bool ((rdOf ByteArray.empty t135 1).toList == ([49] : List UInt8)))) (fun _ h_ => h_.1))) hb); have n1_ := Aside0.mk (Kd.R_below (by (with_reducible repeat (first | apply Kd.R_alloc | apply Kd.R_drewN | apply Kd.R_drew)); exact (Kd.R_mono (Kd.R_far (p := ⟨gb144, 2, none⟩) (Kd.R_far (p := ⟨gb144, 1, none⟩) (Kd.R_far (p := ⟨gb144, 0, none⟩) (Kd.R_types HO_9.out BK144.out (by decide)) (fun _ hk => hk.2) (.string (rdOf ByteArray.empty t135 0))) (fun _ hk => hk.2) (.string (rdOf ByteArray.empty t135 2))) (fun _ hk => hk.2) (.bool ((rdOf ByteArray.empty t135 1).toList == ([49] : List UInt8)))) (fun _ h_ => h_.1))) hb); have n2_ := Aside0.mk (Kd.R_below (by (with_reducible repeat (first | apply Kd.R_alloc | apply Kd.R_drewN | apply Kd.R_drew)); exact (Kd.R_mono (Kd.R_far (p := ⟨gb144, 2, none⟩) (Kd.R_far (p := ⟨gb144, 1, none⟩) (Kd.R_far (p := ⟨gb144, 0, none⟩) (Kd.R_types HO_19.out BK144.out (by decide)) (fun _ hk => hk.2) (.string (rdOf ByteArray.empty t135 0))) (fun _ hk => hk.2) (.string (rdOf ByteArray.empty t135 2))) (fun _ hk => hk.2) (.bool ((rdOf ByteArray.empty t135 1).toList == ([49] : List UInt8)))) (fun _ h_ => h_.1))) hb); have n3_ := Aside0.mk (blk_below (g := gb144) (o := .cells #[.string (rdOf ByteArray.empty t135 0), .string (rdOf ByteArray.empty t135 2), .bool ((rdOf ByteArray.empty t135 1).toList == ([49] : List UInt8))] 51 (0, 0)) (by (with_reducible repeat (first | refine blk_drewN ?_ _ | refine blk_drew ?_ | refine blk_alloc ?_ _)); refine blk_put (cs := #[.string (rdOf ByteArray.empty t135 0), .string (rdOf ByteArray.empty t135 2), .bool false]) ?_ 2 _ rfl; (with_reducible repeat (first | refine blk_drewN ?_ _ | refine blk_drew ?_ | refine blk_alloc ?_ _)); refine blk_put (cs := #[.string (rdOf ByteArray.empty t135 0), .string (⟨#[]⟩ : ByteArray), .bool false]) ?_ 1 _ rfl; (with_reducible repeat (first | refine blk_drewN ?_ _ | refine blk_drew ?_ | refine blk_alloc ?_ _)); refine blk_put (cs := #[.string (⟨#[]⟩ : ByteArray), .string (⟨#[]⟩ : ByteArray), .bool false]) ?_ 0 _ rfl; (with_reducible repeat (first | refine blk_drewN ?_ _ | refine blk_drew ?_ | refine blk_alloc ?_ _)); exact BK144.out) hb); have n4_ := Aside0.mk (below_step (by repeat (first | (with_reducible first | exact HB.out | apply below_alloc | apply pw_below_drewN | apply below_drew1 | refine below_set ?_ GE144.out) | exact HB.out)) hb); clear HO_6; clear HO_9; clear HO_19; clear BK144; clear HB; have HO_6 := n0_; have HO_9 := n1_; have HO_19 := n2_; have BK144 := n3_; have HB := n4_; clear n0_ n1_ n2_ n3_ n4_; (try clear hb); (try clear hb2); (try clear hk); (try clear hi)))
                            go_ret2
                            exact ⟨_, by first | rfl | (simp [errW_none, errW_some] <;> rfl) | (simp [*, errW_none, errW_some] <;> rfl), by first | exact Kd.R_nil _ _ _ _ _ | exact Kd.N_nil _ _ _ _ _ | exact Kd.V_nil _ _ _ _ _ | exact Kd.Q_nil _ _ _ _ _ | exact Kd.S_nil _ _ _ _ _, by repeat (first | (with_reducible first | exact HB.out | apply below_alloc | apply pw_below_drewN | apply below_drew1 | refine below_set ?_ GE144.out) | exact HB.out)⟩
                        · rw [if_neg c22] at H
                          exact absurd H (by simp)
                      · rw [if_neg c21] at H
                        exact absurd H (by simp)
                    · rw [if_neg c20] at H
                      exact absurd H (by simp)
            · rw [if_neg c8] at H
              exact absurd H (by simp)
          · rw [if_neg c7] at H
            exact absurd H (by simp)
        · rw [if_neg c6] at H
          have c6b0 : decide (x21_1 < (t130.length : Int)) = false := decide_eq_false c6
          clear c6
          simp only [Option.some.injEq, Prod.mk.injEq] at H
          obtain ⟨rfl, rfl⟩ := H
          go_wp2
          go_ret2
          exact ⟨_, by first | rfl | (simp [errW_none, errW_some] <;> rfl) | (simp [*, errW_none, errW_some] <;> rfl), by (with_reducible repeat (first | apply Kd.R_alloc | apply Kd.R_drewN | apply Kd.R_drew)); exact HO_6.out, by repeat (first | (with_reducible first | exact HB.out | apply below_alloc | apply pw_below_drewN | apply below_drew1) | exact HB.out)⟩
  · rw [if_neg c3] at H
    have c3b0 : (t131 == 0) = false := beq_eq_false_iff_ne.mpr c3
    have c3b1 : (t131 != 0) = true := bne_iff_ne.mpr c3
    simp only [Option.some.injEq, Prod.mk.injEq] at H
    obtain ⟨rfl, rfl⟩ := H
    go_enter Tryz.func33, Tryz.ntmps33
    go_wp2_with (first | ((with_reducible refine gate_callee (f := 65) rfl ?_); refine goesL_ (some 14) rfl rfl Tryz.func65 (by kernel_rfl) rfl #[.string a0] rfl (by (try simp only [List.map_toArray, List.map_cons, List.map_nil]); first | done | rfl | (simp only [List.length_drop, List.length_take]; rfl)) ?_; (with_reducible refine (knot_Untie.calls k a0 t130 t131 _ A2.out (gl_below HG.out (by repeat (first | (with_reducible first | exact HB.out | apply below_alloc | apply pw_below_drewN | apply below_drew1) | exact HB.out)))).mono ?_); rintro e w44 ⟨v132, rfl, ho0, hb⟩; refine ⟨_, rfl, ?_⟩; have n0_ := Aside0.mk (Kd.R_lower ho0 (below_size (by repeat (first | (with_reducible first | exact HB.out | apply below_alloc | apply pw_below_drewN | apply below_drew1) | exact HB.out)))); have n1_ := Aside0.mk (below_step (by repeat (first | (with_reducible first | exact HB.out | apply below_alloc | apply pw_below_drewN | apply below_drew1) | exact HB.out)) hb); clear HB; have HO133 := n0_; have HB := n1_; clear n0_ n1_; (try clear hb); (try clear hb2); (try clear hk); (try clear hi); (try clear ho0)))
    go_ret2
    exact ⟨_, by first | rfl | (simp [errW_none, errW_some] <;> rfl) | (simp [*, errW_none, errW_some] <;> rfl), by first | exact Kd.R_nil _ _ _ _ _ | exact Kd.N_nil _ _ _ _ _ | exact Kd.V_nil _ _ _ _ _ | exact Kd.Q_nil _ _ _ _ _ | exact Kd.S_nil _ _ _ _ _, by repeat (first | (with_reducible first | exact HB.out | apply below_alloc | apply pw_below_drewN | apply below_drew1) | exact HB.out)⟩

end Go.Proofs.YtopajmbblemopaaGreatDoor.XSh
namespace Go.Proofs.YtopajmbblemopaaGreatDoor
set_option linter.unusedVariables false
set_option linter.unusedSimpArgs false
open Go.RowKit Go.Proofs.YtopajmbblemopaaGreatDoorW.PrintWords Go.Proofs.YtopajmbblemopaaGreatDoorW.PrintLast Go.Proofs.YtopajmbblemopaaGreatDoorW.PrintMore
theorem first_same (s : ByteArray) : XSh.knot_First.f s = XPg.knot_First.f s := rfl
theorem untie_same : ∀ (K : Nat) (s : ByteArray) (l : List ByteArray), XSh.knot_Untie.l0 K s l = XPg.knot_Untie.l0 K s l
  | 0, _, _ => rfl
  | K + 1, s, l => by
    have ih := untie_same K
    simp only [XSh.knot_Untie.l0, XPg.knot_Untie.l0, first_same, ih]
theorem suntie_eq (s : ByteArray) (K : Nat) (hK : s.size + 1 ≤ K) : XSh.knot_Untie.f K s = some (match untieL (bsL s) with | some l => (l.map str, 0) | none => ([], 10)) := by
  have h := untie_eq s K hK
  unfold XPg.knot_Untie.f at h
  unfold XSh.knot_Untie.f
  rw [untie_same]
  exact h
def unC (c : Chn) : XSh.S51 := ⟨str c.key, str c.val, c.gone⟩
theorem tie_in : ∀ {l : List Txt}, l.length ≤ (tieL l).length ∧ ∀ x ∈ l, x.length ≤ (tieL l).length
  | [] => ⟨Nat.le_refl _, fun _ h => by cases h⟩
  | a :: l => by
    obtain ⟨h1, h2⟩ := tie_in (l := l)
    have e : (tieL (a :: l)).length = (strandL a).length + (tieL l).length := by simp [tieL]
    have hs := strand_length a
    refine ⟨by rw [e, List.length_cons]; omega, fun x hx => ?_⟩
    rw [e]
    rcases List.mem_cons.1 hx with rfl | hx
    · omega
    · have := h2 x hx
      omega
theorem untie_in {s : Txt} {l : List Txt} (h : untieL s = some l) : l.length ≤ 1048576 ∧ ∀ x ∈ l, x.length ≤ 1048576 := by
  obtain ⟨rfl, h2⟩ := untie_some h
  obtain ⟨h3, h4⟩ := tie_in (l := l)
  unfold maxKnot at h2
  exact ⟨by omega, fun x hx => by have := h4 x hx; omega⟩
theorem j1_true (K : Nat) (acc : List XSh.S51) (m tl : List ByteArray) (n i : Int) : XSh.shelf_read.j1 (K + 1) acc m tl n i true = some ([], false) := by
  rw [XSh.shelf_read.j1, if_pos rfl]
theorem j1_false (K : Nat) (acc : List XSh.S51) (k g v : Txt) (tl : List ByteArray) (n i : Int) (ha : acc.length ≤ 3000000) :
    XSh.shelf_read.j1 (K + 1) acc [str k, str g, str v] tl n i false = if isC ⟨k, g == [49], v⟩ = true then XSh.shelf_read.l0 K (acc ++ [unC ⟨k, g == [49], v⟩]) tl n (wrap64 (i + 1)) else some ([], false) := by
  have e0 : rdOf ByteArray.empty [str k, str g, str v] 0 = str k := rfl
  have e1 : rdOf ByteArray.empty [str k, str g, str v] 1 = str g := rfl
  have e2 : rdOf ByteArray.empty [str k, str g, str v] 2 = str v := rfl
  have eg : (str g).toList = g := by rw [bs_toList, bs_of]
  rw [XSh.shelf_read.j1, if_neg (by decide), e0, e1, e2, eg, if_pos (by simp), if_pos (by simp), if_pos (by simp), sis_eq, bs_of, bs_of]
  simp only [Option.bind_some]
  by_cases hc : isC ⟨k, g == [49], v⟩ = true
  · rw [if_pos hc, if_pos hc, if_pos (by omega)]
    rfl
  · rw [if_neg hc, if_neg hc]
theorem readOne_none {x : Txt} (hu : untieL x = none) : readOne x = none := by
  unfold readOne
  rw [hu]
theorem readOne_other {x : Txt} {m : List Txt} (hu : untieL x = some m) (hm : m.length ≠ 3) : readOne x = none := by
  unfold readOne
  rw [hu]
  match m, hm with
  | [], _ => rfl
  | [a], _ => rfl
  | [a, b], _ => rfl
  | [a, b, c], hm => exact absurd rfl hm
  | a :: b :: c :: e :: r, _ => rfl
theorem readOne_three {x k g v : Txt} (hu : untieL x = some [k, g, v]) : readOne x = if (g = [48] ∨ g = [49]) ∧ isC ⟨k, g == [49], v⟩ = true then some ⟨k, g == [49], v⟩ else none := by
  unfold readOne
  rw [hu]
theorem sread_l0 (tl : List Txt) (hx : ∀ x ∈ tl, x.length ≤ 1048576) (hn : tl.length ≤ 1048576) : ∀ (d i K : Nat) (acc : List XSh.S51), i + d = tl.length → 2 * d + 1048580 ≤ K → acc.length + d ≤ 2000000 →
    XSh.shelf_read.l0 K acc (tl.map str) (tl.length : Int) (i : Int) = some (match readAll (tl.drop i) with | none => ([], false) | some l => (acc ++ l.map unC, true))
  | 0, i, K, acc, h, hK, ha => by
    obtain ⟨K, rfl⟩ : ∃ j, K = j + 1 := ⟨K - 1, by omega⟩
    rw [XSh.shelf_read.l0, if_neg (by omega), List.drop_eq_nil_of_le (by omega), readAll]
    simp
  | d + 1, i, K, acc, h, hK, ha => by
    obtain ⟨K, rfl⟩ : ∃ j, K = j + 2 := ⟨K - 2, by omega⟩
    have hi : i < tl.length := by omega
    have hdrop : tl.drop i = tl[i] :: tl.drop (i + 1) := List.drop_eq_getElem_cons hi
    have hrd : rdOf ByteArray.empty (tl.map str) (i : Int) = str tl[i] := by simp [rdOf, hi]
    have hsz := hx _ (List.getElem_mem hi)
    have hw : wrap64 ((i : Int) + 1) = ((i + 1 : Nat) : Int) := by rw [swrap (by omega) (by omega)]; rfl
    rw [XSh.shelf_read.l0, if_pos (by omega), if_pos (by omega), if_pos (by rw [List.length_map]; omega), hrd, suntie_eq _ _ (by rw [str_size]; omega), bs_of, hdrop, readAll]
    cases hu : untieL tl[i] with
    | none =>
      simp only [Option.bind_some]
      rw [if_neg (by decide), j1_true, readOne_none hu]
    | some m =>
      simp only [Option.bind_some]
      rw [if_pos trivial]
      have other : m.length ≠ 3 → (if ((m.map str).length : Int) = 3 then (if 1 < ((m.map str).length : Int) then (if (rdOf ByteArray.empty (m.map str) 1).toList = ([48] : List UInt8) then (XSh.shelf_read.j1 (K + 1) acc (m.map str) (tl.map str) (tl.length : Int) (i : Int) false) else (XSh.shelf_read.j1 (K + 1) acc (m.map str) (tl.map str) (tl.length : Int) (i : Int) ((rdOf ByteArray.empty (m.map str) 1).toList != ([49] : List UInt8)))) else none) else (XSh.shelf_read.j1 (K + 1) acc (m.map str) (tl.map str) (tl.length : Int) (i : Int) true)) = some ([], false) := fun hm => by
        rw [if_neg (by rw [List.length_map]; omega), j1_true]
      by_cases hm : m.length = 3
      case neg => rw [other hm, readOne_other hu hm]
      obtain ⟨k, g, v, rfl⟩ : ∃ k g v, m = [k, g, v] := by
        match m, hm with
        | [k, g, v], _ => exact ⟨k, g, v, rfl⟩
      rw [readOne_three hu]
      have e1 : rdOf ByteArray.empty ([k, g, v].map str) 1 = str g := rfl
      have eg : (str g).toList = g := by rw [bs_toList, bs_of]
      rw [if_pos (by simp), if_pos (by simp), e1, eg]
      have hstep : XSh.shelf_read.j1 (K + 1) acc ([k, g, v].map str) (tl.map str) (tl.length : Int) (i : Int) false = some (match (if isC ⟨k, g == [49], v⟩ = true then some (⟨k, g == [49], v⟩ : Chn) else none) with | none => ([], false) | some c => match (match readAll (tl.drop (i + 1)) with | none => none | some r => some (c :: r)) with | none => ([], false) | some l => (acc ++ l.map unC, true)) := by
        show XSh.shelf_read.j1 (K + 1) acc [str k, str g, str v] (tl.map str) (tl.length : Int) (i : Int) false = _
        rw [j1_false _ _ _ _ _ _ _ _ (by omega), hw]
        by_cases hc : isC ⟨k, g == [49], v⟩ = true
        · rw [if_pos hc, if_pos hc, sread_l0 tl hx hn d (i + 1) K _ (by omega) (by omega) (by rw [List.length_append]; simp only [List.length_cons, List.length_nil]; omega)]
          simp only
          cases readAll (tl.drop (i + 1)) with
          | none => rfl
          | some r => simp
        · rw [if_neg hc, if_neg hc]
      by_cases g0 : g = [48]
      · rw [if_pos g0, hstep]
        by_cases hc : isC ⟨k, g == [49], v⟩ = true
        · rw [if_pos hc, if_pos ⟨.inl g0, hc⟩]
          rfl
        · rw [if_neg hc, if_neg (fun q => hc q.2)]
      · rw [if_neg g0]
        by_cases g1 : g = [49]
        · have gb : (g != ([49] : List UInt8)) = false := by rw [g1]; rfl
          rw [gb, hstep]
          by_cases hc : isC ⟨k, g == [49], v⟩ = true
          · rw [if_pos hc, if_pos ⟨.inr g1, hc⟩]
            rfl
          · rw [if_neg hc, if_neg (fun q => hc q.2)]
        · have gb : (g != ([49] : List UInt8)) = true := bne_iff_ne.2 g1
          rw [gb, j1_true, if_neg (fun q => q.1.elim g0 g1)]
theorem sread_eq (s : ByteArray) (K : Nat) (hK : s.size + 4000000 ≤ K) : XSh.shelf_read.f K s = some (match readC (bsL s) with | none => ([], false) | some l => (l.map unC, true)) := by
  unfold XSh.shelf_read.f readC
  rw [suntie_eq s K (by omega)]
  cases hu : untieL (bsL s) with
  | none =>
    simp only [Option.bind_some]
    rw [if_neg (by decide)]
  | some tl =>
    obtain ⟨h1, h2⟩ := untie_in hu
    simp only [Option.bind_some]
    rw [if_pos trivial, List.length_map]
    have h := sread_l0 tl h2 h1 tl.length 0 K [] (by omega) (by omega) (by simp; omega)
    rw [List.drop_zero] at h
    have e0 : (([] : List XSh.S51)) = [] := rfl
    rw [show ((0 : Nat) : Int) = 0 from rfl] at h
    rw [h]
    cases readAll tl with
    | none => rfl
    | some l => rfl
theorem readAll_len : ∀ {l : List Txt} {r : List Chn}, readAll l = some r → r.length = l.length
  | [], r, h => by
    injection h with h
    subst h
    rfl
  | x :: l, r, h => by
    rw [readAll] at h
    split at h
    · cases h
    · split at h
      · cases h
      · rename_i r0 hr0
        injection h with h
        subst h
        rw [List.length_cons, List.length_cons, readAll_len hr0]
theorem readC_len {s : Txt} {r : List Chn} (h : readC s = some r) : r.length ≤ 1048576 ∧ r.length ≤ s.length := by
  unfold readC at h
  split at h
  · cases h
  · rename_i l hu
    have hl := readAll_len h
    obtain ⟨h1, _⟩ := untie_in hu
    obtain ⟨e, _⟩ := untie_some hu
    obtain ⟨h3, _⟩ := tie_in (l := l)
    rw [← e] at h3
    omega
def mcC (c : Chn) : MC := ⟨str c.key, str c.val, c.gone⟩
theorem mcC_toC (l : List Chn) : (l.map mcC).map MC.toC = l := by
  rw [List.map_map]
  have : (MC.toC ∘ mcC) = id := funext fun c => by
    show Chn.mk (bsL (str c.key)) c.gone (bsL (str c.val)) = c
    rw [bs_of, bs_of]
  rw [this, List.map_id]
/-- What read does. -/
theorem read_call (s : ByteArray) (w : World) (hG : Gl w) :
    Calls Tryz.prog 33 #[.string s] w fun e w' => Below w.heap.size w w' ∧
      ((readC (bsL s) = none ∧ ∃ v, e = .returned (.tuple #[v, .bool false])) ∨ (∃ l A c, readC (bsL s) = some l ∧ e = .returned (.tuple #[.slice A l.length c, .bool true]) ∧ ChAt w' A (l.map mcC))) := by
  obtain ⟨K, hK⟩ : ∃ K, s.size + 4000000 ≤ K := ⟨_, Nat.le_refl _⟩
  have h := sread_eq s K hK
  clear hK
  cases hr : readC (bsL s) with
  | none =>
    rw [hr] at h
    refine (XSh.shelf_read.calls K s [] false w h hG).mono ?_
    rintro e w' ⟨v, rfl, _, hb⟩
    exact ⟨hb, .inl ⟨rfl, v, rfl⟩⟩
  | some l =>
    rw [hr] at h
    refine (XSh.shelf_read.calls K s (l.map unC) true w h hG).mono ?_
    rintro e w' ⟨v, rfl, hR, hb⟩
    obtain ⟨A, c, rfl, hc, hC⟩ := Kd.R_reads hR
    rw [List.length_map]
    have hm : (l.map unC).map mcOf = l.map mcC := by rw [List.map_map]; rfl
    refine ⟨hb, .inr ⟨l, A, c, rfl, rfl, ?_⟩⟩
    rw [← hm]
    refine ch_of_C hC fun x hx => ?_
    obtain ⟨y, hy, rfl⟩ := List.mem_map.1 hx
    obtain ⟨_, h2, h3, _⟩ := (isC_iff y).1 (readC_is hr y hy)
    show (str y.key).size ≤ _ ∧ (str y.val).size ≤ _
    rw [str_size, str_size]
    unfold maxLen
    omega
end Go.Proofs.YtopajmbblemopaaGreatDoor
namespace Go.Proofs.YtopajmbblemopaaGreatDoor
set_option linter.unusedVariables false
set_option linter.unusedSimpArgs false
open Go.RowKit Go.Maps Go.WideMaps Go.Proofs.YtopajmbblemopaaGreatDoorW.PrintWords Go.Proofs.YtopajmbblemopaaGreatDoorW.PrintLast Go.Proofs.YtopajmbblemopaaGreatDoorW.PrintMore
theorem sinfo : (Tryz.prog.info? 9).map (fun i => (i.zero, i.size, i.bytes)) = some (some (.string ⟨#[]⟩), 1, 16) := by kernel_rfl
theorem lit_own (W : World) (x : ByteArray) : (W.alloc (.cells #[.string x] 9)).ownsRow W.heap.size 9 1 (.slice (some ⟨W.heap.size, 0, none⟩) 1 1) 1 [.string x] :=
  own_lit_of (enc := Value.string) W W.heap.size 9 [x] (Nat.le_refl _) (by simp)
theorem own_some {w : World} {B e sz n : Nat} {v : Value} {xs : List Value} (h : w.ownsRow B e sz v n xs) (hn : 0 < n) : ∃ g c, v = .slice (some ⟨g, 0, none⟩) n c := by
  rcases h.2 with ⟨_, h0⟩ | ⟨g, cap, cur, hv, _⟩
  · omega
  · exact ⟨g, cap, hv⟩
theorem rt_step {l : List Txt} {k : Nat} {x : Txt} {q : Sh} (h : readTexts (l.take k) [] = some q) (hx : l[k]? = some x) : readTexts (l.take (k + 1)) [] = match readC x with | none => none | some c => some (doAll q c) := by
  rw [List.take_add_one, hx, texts_app, h]
  simp only [Option.toList]
  rw [readTexts]
  cases readC x <;> rfl
theorem rt_none {l : List Txt} {k : Nat} (h : readTexts (l.take k) [] = none) : readTexts l [] = none := by
  rw [← List.take_append_drop k l, texts_app, h]
/-- What opening leaves. -/
def OpenSh (w0 w w' : World) (b : Nat) (fp : List Nat) (s' : RS) (L : LS) (q : Option Sh) (er : Int) (e : Ending) : Prop :=
  ∃ fp', MineL w0 w' b s' fp' ∧ Chg (· ∈ fp) w w' ∧ (∀ k ∈ fp', k ∈ fp ∨ w.heap.size ≤ k) ∧
    ((er ≠ 0 ∧ e = .returned (.tuple #[.pointer none, .int .i64 er])) ∨ (er = 0 ∧ q = none ∧ e = .returned (.tuple #[.pointer none, .int .i64 50])) ∨
      (er = 0 ∧ ∃ p sb mb lb, q = some p ∧ e = .returned (.tuple #[.pointer (some ⟨sb, 0, none⟩), .int .i64 0]) ∧ ShAt w0 w' b sb mb lb s' L p fp' ∧ w.heap.size ≤ sb ∧ w.heap.size ≤ mb ∧ w.heap.size ≤ lb))
section
variable {w0 w : World} {b : Nat} {s : RS} {fp : List Nat}
set_option maxRecDepth 20000 in
set_option maxHeartbeats 1600000 in
theorem sh_open (hG : Gl w0) (h : MineL w0 w b s fp) (s' : RS) (er : Int) (L : LS) (e0 : Int) (base : Txt) (recs : List Txt) (n : Nat) (ho : openM s = (s', er)) (hof : openOf (tapeOf s 0) (tapeOf s 1) = L) (hc : pickC (tapeOf s 0) (tapeOf s 1) = (e0, base, recs, n)) (hn : recs.length ≤ 5000000) :
    Calls Tryz.prog 13 #[.pointer (some ⟨b, 0, none⟩)] w fun e w' => OpenSh w0 w w' b fp s' L (readTexts (base :: recs) []) er e := by
  have HO := hd (open_any w0 w hG h.below b s fp h.at_ h.low)
  rw [ho, hof, hc] at HO
  have HS := hd h
  clear ho hof hc h
  by_cases he : er = 0
  · subst he
    go_enter Tryz.func13, Tryz.ntmps13
    go_wp2_with (fail)
    refine HO.out.mono ?_
    rintro e w1 ⟨fp1, hr1, hc1, hf1, hq⟩
    rcases hq with ⟨q, _⟩ | ⟨_, lb, v, B, rfl, hlb, hlf, hblk, hB, hv⟩
    · exact absurd rfl q
    have HR1 := hd hr1
    have HC1 := hd hc1
    have HF1 := hd hf1
    have HLB := hd (And.intro hlb hlf)
    have HBL := hd hblk
    have HV := hd hv
    clear HO hr1 hc1 hf1 hlb hlf hblk hv hB
    have hmk : (Instr.makeMap 81 none).run Tryz.prog w1 = .ok (.map (some w1.heap.size)) (w1.alloc (.map #[] 0)) := rfl
    obtain ⟨Av, cv, rfl, hcv, _⟩ := Kd.R_reads HV.out
    rw [List.length_map] at hcv ⊢
    have HMK := hd hmk
    clear hmk
    have hW0 : (((w1.alloc (.map #[] 0)).alloc (.cells #[.map (some w1.heap.size), .pointer (some ⟨lb, 0, none⟩)] 83)).heap.size) = w1.heap.size + 1 + 1 := by simp
    have hlit := lit_own ((w1.alloc (.map #[] 0)).alloc (.cells #[.map (some w1.heap.size), .pointer (some ⟨lb, 0, none⟩)] 83)) (str base)
    rw [hW0] at hlit
    have hbw : Below w1.heap.size w1 (((w1.alloc (.map #[] 0)).alloc (.cells #[.map (some w1.heap.size), .pointer (some ⟨lb, 0, none⟩)] 83)).alloc (.cells #[.string (str base)] 9)) := (((Below.refl _ _).alloc (Nat.le_refl _) _).alloc (by simp) _).alloc (by simp; omega) _
    have hmem : MapAt ((w1.alloc (.map #[] 0)).alloc (.cells #[.map (some w1.heap.size), .pointer (some ⟨lb, 0, none⟩)] 83)) w1.heap.size [] := (MapAt.new w1).below ((Below.refl _ _).alloc (Nat.le_refl _) _)
    have HMEM := hd (hmem.below ((Below.refl _ _).alloc (Nat.le_refl _) (.cells #[.string (str base)] 9)))
    have hsh : Blk ((w1.alloc (.map #[] 0)).alloc (.cells #[.map (some w1.heap.size), .pointer (some ⟨lb, 0, none⟩)] 83)) (w1.heap.size + 1) [.map (some w1.heap.size), .pointer (some ⟨lb, 0, none⟩)] 83 := by
      have := Blk.new (w1.alloc (.map #[] 0)) [.map (some w1.heap.size), .pointer (some ⟨lb, 0, none⟩)] 83
      rwa [show (w1.alloc (.map #[] 0)).heap.size = w1.heap.size + 1 by simp] at this
    have HSH := hd (hsh.below ((Below.refl _ _).alloc (Nat.le_refl _) (.cells #[.string (str base)] 9)))
    have hrec : w1.ownsRow B 9 1 (.slice Av recs.length cv) recs.length ((recs.map str).map Value.string) := by
      have := Kd.own_of_R HV.out
      rwa [List.length_map] at this
    have HLIT := hd hlit
    have HREC := hd (pw_own_below hrec hbw)
    have HBW := hd hbw
    have hone : ∀ y ∈ (recs.map str).map Value.string, y.oneCell' = true := by
      intro y hy
      obtain ⟨x, _, rfl⟩ := List.mem_map.1 hy
      rfl
    have HONE := hd hone
    have hmk := HMK.out
    clear hlit hbw hmem hsh hrec hone hW0 HMK
    go_wp2_with ((at_builtin; refine wpList_append_rows rfl _ _ 60 9 (.string ⟨#[]⟩) 1 16 (w1.heap.size + 1 + 1) B rfl Tryz.underlying60 sinfo rfl (by decide) _ _ 1 recs.length [.string (str base)] ((recs.map str).map Value.string) rfl rfl HLIT.out HREC.out HONE.out (by simp) (by omega) (by omega) ?_; intro v' w4 hown4 hgrow4 hloc4; obtain ⟨g4, c4, rfl⟩ := own_some hown4 (by omega); have HOWN := hd hown4; have HGR := hd hgrow4; have HLO := hd hloc4; clear hown4 hgrow4 hloc4))
    clear hmk
    have hch4 := (Chg.refl (fun k => k = w1.heap.size + 1 + 1) _).grown HGR.out (fun k hk => .inl (Option.some.inj hk).symm)
    have HM4 := hd (HMEM.out.chg hch4 (by omega))
    have HS4 := hd (HSH.out.chg hch4 (by omega))
    have HB4 := hd (HBW.out.trans (hch4.below (by simp; omega) (fun i q => by omega)))
    have hcells : ∀ k x, (base :: recs)[k]? = some x → w4.cell? ⟨g4, k, none⟩ = some (.string (str x)) := fun k x hx => by
      have h1 := HOWN.out.cells (g := g4) rfl k (.string (str x)) (by
        have e : [Value.string (str base)] ++ (recs.map str).map Value.string = (base :: recs).map fun x => .string (str x) := by
          rw [List.map_map]
          rfl
        rw [e, List.getElem?_map, hx]
        rfl)
      rwa [add_zero] at h1
    have HCE := hd hcells
    have hg4 : g4 ≠ w1.heap.size := fun q => by
      have := (HOWN.out.lt g4 rfl).1
      omega
    have hs0 := HS.out.below.size
    have HMI : Hd (MineL w0 w1 b s' fp1) := hd ⟨HS.out.below.trans (HC1.out.below hs0 HS.out.low), HR1.out, fun k hk => (HF1.out k hk).elim (HS.out.low k) (fun q => by omega)⟩
    have hw1 : w.heap.size ≤ w1.heap.size := HC1.out.size
    have hmb : ∀ {wr : World}, Chg (fun k => k = w1.heap.size) w4 wr → Below w1.heap.size w1 wr := fun {wr} c => HB4.out.trans (c.below HB4.out.size (fun i q => by omega))
    have HMB := hd @hmb
    clear hch4 hcells HGR HLO HOWN HMEM HSH HLIT HREC HBW HONE hmb
    go_loopw [32] (fun i wr => ∃ k : Nat, k ≤ 1 + recs.length ∧ i = .int .i64 k ∧ Hd (∃ q, readTexts ((base :: recs).take k) [] = some q ∧ MapAt wr w1.heap.size q ∧ q.length ≤ 1048576 * k ∧ Chg (fun k => k = w1.heap.size) w4 wr)) (fun i _ => 1 + recs.length - (RowKit.intOf i).toNat)
    case atStart => exact ⟨0, by omega, rfl, hd ⟨[], rfl, HM4.out, Nat.le_refl _, Chg.refl _ _⟩⟩
    case round =>
      obtain ⟨k, hkl, rfl, HL⟩ := hrel
      obtain ⟨q, hq⟩ := HL.out
      have HQ := hd hq
      clear hq HL
      by_cases hlt : k < 1 + recs.length
      · obtain ⟨x, hx⟩ : ∃ x, (base :: recs)[k]? = some x := ⟨_, List.getElem?_eq_getElem (by rw [List.length_cons]; omega)⟩
        have hcx := chg_cell HQ.out.2.2.2 (HCE.out k x hx) hg4
        have HST := hd (rt_step HQ.out.1 hx)
        have HBR := hd (HMB.out HQ.out.2.2.2)
        have HRD := hd (read_call (str x) wr (gl_below hG (HMI.out.below.trans (HBR.out.mono HMI.out.below.size))))
        rw [bs_of] at HRD
        clear hx
        go_wp2_with (fail)
        refine HRD.out.mono ?_
        rintro e w5 ⟨hb5, hor⟩
        have HB5 := hd hb5
        clear hb5 HRD
        rcases hor with ⟨hnone, v, rfl⟩ | ⟨l, A, c, hsome, rfl, hch⟩
        · rw [hnone] at HST
          have HN := hd (rt_none HST.out)
          clear hnone
          have HB6 := hd (HBR.out.trans (HB5.out.mono HBR.out.size))
          go_wp2_with (fail)
          go_ret2
          have HM6 := HMI.out.below_ HB6.out
          exact ⟨fp1, HM6, HC1.out.trans (Chg.of_below HB6.out (fun _ => False)) (fun _ q => q.elim), HF1.out, .inr (.inl ⟨rfl, HN.out, rfl⟩)⟩
        · rw [hsome] at HST
          have HLN := hd (readC_len hsome)
          have HCH := hd hch
          clear hsome hch
          have hlen := HLN.out.1
          have hql := HQ.out.2.2.1
          have HD := hd (do_any (w1.heap.size + 1) w1.heap.size q A (l.map mcC) c w5 (((HS4.out.chg HQ.out.2.2.2 (by omega)).below HB5.out).cell 0) (HQ.out.2.1.below HB5.out) HCH.out (by rw [List.length_map]; omega) (by omega))
          rw [mcC_toC, List.length_map] at HD
          clear hql
          go_wp2_with (fail)
          refine HD.out.mono ?_
          rintro e w6 ⟨rfl, hm6, hc6⟩
          have HM6 := hd hm6
          have HC6 := hd hc6
          clear hm6 hc6 HD
          go_wp2_with (fail)
          go_roundw
          case rel =>
            refine ⟨k + 1, by omega, by go_num, hd ⟨_, HST.out, HM6.out, ?_, ?_⟩⟩
            · have := len_all l q
              have := HQ.out.2.2.1
              omega
            · exact (HQ.out.2.2.2.trans (Chg.of_below HB5.out (fun k => k = w1.heap.size)) (fun _ q => .inl q)).trans HC6.out (fun _ q => .inl q)
          case measure => simp [RowKit.intOf]; omega
      · obtain rfl : k = 1 + recs.length := by omega
        have hq1 := HQ.out.1
        rw [List.take_of_length_le (by rw [List.length_cons]; omega)] at hq1
        have HQ1 := hd hq1
        clear hq1
        go_wp2_with (fail)
        go_ret2
        have hb := HMB.out HQ.out.2.2.2
        have hM := HMI.out.below_ hb
        have hlow := HMI.out.below.size
        refine ⟨fp1, hM, HC1.out.trans (Chg.of_below hb (fun _ => False)) (fun _ q => q.elim), HF1.out, .inr (.inr ⟨rfl, q, w1.heap.size + 1, w1.heap.size, lb, HQ1.out, rfl, ?_, by omega, by omega, HLB.out.1⟩)⟩
        have hlt1 := HMI.out.lt
        exact ⟨hM, ⟨HBL.out.below hb, HLB.out.2, by have := HLB.out.1; omega⟩, HS4.out.chg HQ.out.2.2.2 (by omega), HQ.out.2.1, fun r => by have := hlt1 _ r; omega, fun r => by have := hlt1 _ r; omega, by omega, by omega⟩
  · have g0 : (er == 0) = false := by simpa using he
    go_enter Tryz.func13, Tryz.ntmps13
    go_wp2_with (fail)
    refine HO.out.mono ?_
    rintro e w1 ⟨fp1, hr1, hc1, hf1, hq⟩
    rcases hq with ⟨_, rfl⟩ | ⟨q, _⟩
    · have HR1 := hd hr1
      have HC1 := hd hc1
      have HF1 := hd hf1
      clear HO hr1 hc1 hf1
      go_wp2_with (fail)
      go_ret2
      have hs0 := HS.out.below.size
      exact ⟨fp1, ⟨HS.out.below.trans (HC1.out.below hs0 HS.out.low), HR1.out, fun k hk => (HF1.out k hk).elim (HS.out.low k) (fun q => by omega)⟩, HC1.out, HF1.out, .inl ⟨he, rfl⟩⟩
    · exact absurd q he
end
end Go.Proofs.YtopajmbblemopaaGreatDoor
namespace Go.Proofs.YtopajmbblemopaaGreatDoor.XSs
open Go.RowKit Go.Proofs.YtopajmbblemopaaGreatDoorW.PrintWords Go.Proofs.YtopajmbblemopaaGreatDoorW.PrintLast Go.Proofs.YtopajmbblemopaaGreatDoorW.PrintMore
attribute [local go_sem] max2_int min2_int max_two min_two max_three min_three max_four min_four   -- for this text's walks alone
set_option linter.unusedVariables false
set_option linter.unusedSimpArgs false



def errW : Option Int → Value
  | none => .nilIface
  | some c => .iface 0 (.int .i64 c)
theorem errW_none : errW none = .nilIface := rfl
theorem errW_some (c : Int) : errW (some c) = .iface 0 (.int .i64 c) := rfl

-- the values' own types
/-! #### struct type 47 -/
structure S47 where
  f0 : ByteArray
  f1 : ByteArray
def z47 : S47 := ⟨(⟨#[]⟩ : ByteArray), (⟨#[]⟩ : ByteArray)⟩
def k47 : Kd S47 := Kd.iso (Kd.pair Kd.string Kd.string) (fun x : S47 => (x.f0, x.f1))
theorem k47_open {w : World} {x : S47} {cs : List Value} (h : k47.K w x cs) : cs = [.string x.f0, .string x.f1] := by
  obtain ⟨_, _, rfl, rfl, rfl⟩ := h
  exact rfl
theorem k47_openM {w : World} {base : Nat} {ok : Nat → Prop} {x : S47} {cs : List Value} (h : k47.M w base ok x cs) : cs = [.string x.f0, .string x.f1] := by
  obtain ⟨_, _, rfl, rfl, rfl⟩ := h
  exact rfl
theorem k47_mkM (w : World) (base : Nat) (ok : Nat → Prop) (x : S47)  : k47.M w base ok x [.string x.f0, .string x.f1] := ⟨[.string x.f0], [.string x.f1], rfl, rfl, rfl⟩
def rd_T47 (xs : List S47) (i : Int) : S47 := xs.getD i.toNat z47
theorem at_T47 {w : World} {A : Option Addr} {n : Nat} {xs : List S47} (h : Kd.C k47 w A n xs) (i : Int) (h0 : 0 ≤ i) (h1 : i < n) : ∃ ad , A = some ad ∧ w.cell? (ad.add (i.toNat * 2)) = some (.string (rd_T47 xs i).f0) ∧ w.cell? ⟨(ad.add (i.toNat * 2)).block, (ad.add (i.toNat * 2)).off + 1, none⟩ = some (.string (rd_T47 xs i).f1) := by
  obtain ⟨ad, c, e, _, hK, hc0⟩ := Kd.C_get h z47 i h0 h1
  have hc : ∀ j u, c[j]? = some u → w.cell? (ad.add (i.toNat * 2 + j)) = some u := hc0
  obtain rfl := k47_open hK
  exact ⟨ad, e, hc 0 _ rfl, by rw [← add_field _ _ 1 (by omega)]; exact hc 1 _ rfl⟩

end Go.Proofs.YtopajmbblemopaaGreatDoor.XSs
namespace Go.Proofs.YtopajmbblemopaaGreatDoor.XSs
open Go.RowKit Go.Proofs.YtopajmbblemopaaGreatDoorW.PrintWords Go.Proofs.YtopajmbblemopaaGreatDoorW.PrintLast Go.Proofs.YtopajmbblemopaaGreatDoorW.PrintMore
attribute [local go_sem] max2_int min2_int max_two min_two max_three min_three max_four min_four   -- for this text's walks alone
set_option linter.unusedVariables false
set_option linter.unusedSimpArgs false

theorem eqA47 (d : Nat) (w : World) (x0 y0 : ByteArray) (x1 y1 : ByteArray) :
    (Op.equalIn (d + 2) 47 (.agg #[.string x0, .string x1]) (.agg #[.string y0, .string y1])).run Tryz.prog w = .ok (x0.toList == y0.toList && (x1.toList == y1.toList)) w := by
  refine eqA_of Tryz.underlying47 (by kernel_rfl) ?_
  refine eqf_cons (by rfl) (by go_simp; rfl) (by go_simp; rfl) (by go_simp) ?_
  exact eqf_last (by rfl) (by go_simp; rfl) (by go_simp; rfl) (by go_simp)
end Go.Proofs.YtopajmbblemopaaGreatDoor.XSs
namespace Go.Proofs.YtopajmbblemopaaGreatDoor.XSs
open Go.RowKit Go.Proofs.YtopajmbblemopaaGreatDoorW.PrintWords Go.Proofs.YtopajmbblemopaaGreatDoorW.PrintLast Go.Proofs.YtopajmbblemopaaGreatDoorW.PrintMore
attribute [local go_sem] max2_int min2_int max_two min_two max_three min_three max_four min_four   -- for this text's walks alone
set_option linter.unusedVariables false
set_option linter.unusedSimpArgs false

attribute [local go_sem high] eqA47
/-! ### furlongref05_Same: function 16 -/
def furlongref05_Same.l0 : Nat → List (S47) → List (S47) → Int → Option (Bool)
  | 0, _, _, _ => none
  | k + 1, x0, x1, x5 => if x5 < (x0.length : Int) then (if 0 ≤ x5 then (if x5 < (x1.length : Int) then (if (!((((rd_T47 x0 x5).f0).toList) == (((rd_T47 x1 x5).f0).toList)) || (!((((rd_T47 x0 x5).f1).toList) == (((rd_T47 x1 x5).f1).toList)))) = true then (some false) else (furlongref05_Same.l0 k x0 x1 (wrap64 (x5 + 1)))) else (none)) else (none)) else (some true)
def furlongref05_Same.f (k : Nat) (l0 : List (S47)) (l1 : List (S47)) : Option (Bool) := if (l0.length : Int) = (l1.length : Int) then (furlongref05_Same.l0 k l0 l1 0) else (some false)
theorem furlongref05_Same.mono_l : ∀ k, (∀ y0 y1 y2, LeO (furlongref05_Same.l0 k y0 y1 y2) (furlongref05_Same.l0 (k + 1) y0 y1 y2))
  | 0 => fun _ _ _ r h => by simp [furlongref05_Same.l0] at h
  | k + 1 => by
    have ih0 := furlongref05_Same.mono_l k
    · intro y0 y1 y2
      unfold furlongref05_Same.l0
      repeat' first
      | (with_reducible exact ih0 _ _ _)
      | (with_reducible exact LeO.refl _)
      | (with_reducible exact LeO.none _)
      | (with_reducible refine LeO.ite ?_ ?_)
      | (with_reducible refine LeO.bind ?_ (fun _ => ?_))
      | exact ih0 _ _ _
      | exact LeO.none _
      | refine LeO.ite ?_ ?_
      | refine LeO.bind ?_ (fun _ => ?_)
theorem furlongref05_Same.mono : ∀ a0 a1 k, LeO (furlongref05_Same.f k a0 a1) (furlongref05_Same.f (k + 1) a0 a1) := by
  intro a0 a1 k
  have ih0 := furlongref05_Same.mono_l k
  unfold furlongref05_Same.f
  repeat' first
      | (with_reducible exact ih0 _ _ _)
      | (with_reducible exact LeO.refl _)
      | (with_reducible exact LeO.none _)
      | (with_reducible refine LeO.ite ?_ ?_)
      | (with_reducible refine LeO.bind ?_ (fun _ => ?_))
      | exact ih0 _ _ _
      | exact LeO.none _
      | refine LeO.ite ?_ ?_
      | refine LeO.bind ?_ (fun _ => ?_)
set_option maxHeartbeats 8000000 in
set_option maxRecDepth 100000 in
theorem furlongref05_Same.calls (k : Nat) (A0 : Option Addr) (c0 : Nat) (l0 : List (S47)) (A1 : Option Addr) (c1 : Nat) (l1 : List (S47)) (r : Bool) (w : World) (hr0 : Kd.C k47 w A0 l0.length l0) (hc0 : l0.length ≤ c0) (hr1 : Kd.C k47 w A1 l1.length l1) (hc1 : l1.length ≤ c1) (h : furlongref05_Same.f k l0 l1 = some r) :
    Calls Tryz.prog 16 #[.slice A0 l0.length c0, .slice A1 l1.length c1] w fun e w' => e = .returned (.bool r) ∧ Drawn0 w w' := by
  have hu47 := Tryz.underlying47
  have HR0 := Aside0.mk hr0
  have HC0 := Aside0.mk hc0
  clear hr0 hc0
  have HR1 := Aside0.mk hr1
  have HC1 := Aside0.mk hc1
  clear hr1 hc1
  have H : (if (l0.length : Int) = (l1.length : Int) then (furlongref05_Same.l0 k l0 l1 0) else (some false)) = some r := h
  clear h
  by_cases c3 : (l0.length : Int) = (l1.length : Int)
  · rw [if_pos c3] at H
    have c3b0 : ((l0.length : Int) == (l1.length : Int)) = true := beq_iff_eq.mpr c3
    have c3b1 : ((l0.length : Int) != (l1.length : Int)) = false := bne_eq_false_iff_eq.mpr c3
    have c3b2 : (l0.length == l1.length) = true := by first | simpa using c3 | (simp at c3 ⊢; omega)
    clear c3
    have H' := Aside0.mk H
    clear H
    go_enter Tryz.func16, Tryz.ntmps16
    go_wp2
    repeat (go_quiet (fail); try go_wp2)
    go_loopg [5] k (fun kq v5 w' => ∃ (x5_1 : Int), v5 = .int .i64 x5_1 ∧ Aside0 (furlongref05_Same.l0 kq l0 l1 x5_1 = some r) ∧ Aside0 (kq ≤ k) ∧ Drawn0 w w')
    case atStart => exact ⟨(0), (by first | rfl | (simp; done) | (simp [*]; done)), H', ⟨Nat.le_refl _⟩, by repeat (first | exact Drawn0.refl _ | apply Drawn0.step)⟩
    case round =>
      clear H'
      try clear c1
      try clear p2
      try clear c3
      try clear c3b0
      try clear c3b1
      try clear c3b2
      obtain ⟨x5_1, rfl, HA, HK1, ⟨m1, rfl⟩⟩ := hrel
      cases gk with
      | zero => exact absurd HA.out (by simp [furlongref05_Same.l0])
      | succ k1 =>
        have H := HA.out
        clear HA
        simp only [furlongref05_Same.l0] at H
        by_cases c4 : x5_1 < (l0.length : Int)
        · rw [if_pos c4] at H
          have c4b0 : decide (x5_1 < (l0.length : Int)) = true := decide_eq_true c4
          clear c4
          by_cases c5 : 0 ≤ x5_1
          · rw [if_pos c5] at H
            have c5b0 : decide (0 ≤ x5_1) = true := decide_eq_true c5
            clear c5
            by_cases c6 : x5_1 < (l1.length : Int)
            · rw [if_pos c6] at H
              have c6b0 : decide (x5_1 < (l1.length : Int)) = true := decide_eq_true c6
              clear c6
              by_cases c7 : (!((((rd_T47 l0 x5_1).f0).toList) == (((rd_T47 l1 x5_1).f0).toList)) || (!((((rd_T47 l0 x5_1).f1).toList) == (((rd_T47 l1 x5_1).f1).toList)))) = true
              · rw [if_pos c7] at H
                have c7b0 : (!((((rd_T47 l0 x5_1).f0).toList) == (((rd_T47 l1 x5_1).f0).toList)) || (!((((rd_T47 l0 x5_1).f1).toList) == (((rd_T47 l1 x5_1).f1).toList)))) = true := c7
                clear c7
                obtain rfl := Option.some.inj H
                have p101 : 0 ≤ (x5_1 : Int) := of_decide_eq_true (by first | (with_reducible assumption) | assumption)
                have q101 : x5_1 < (l0.length : Int) := of_decide_eq_true (by first | (with_reducible assumption) | assumption)
                obtain ⟨ad101, e101, hx101_0, hx101_1⟩ := at_T47 HR0.out x5_1 p101 q101
                cases e101
                replace p101 := eq_true p101
                replace q101 := eq_true q101
                have p102 : 0 ≤ (x5_1 : Int) := of_decide_eq_true (by first | (with_reducible assumption) | assumption)
                have q102 : x5_1 < (l1.length : Int) := of_decide_eq_true (by first | (with_reducible assumption) | assumption)
                obtain ⟨ad102, e102, hx102_0, hx102_1⟩ := at_T47 HR1.out x5_1 p102 q102
                cases e102
                replace p102 := eq_true p102
                replace q102 := eq_true q102
                go_wp2
                repeat (go_quiet (fail); try go_wp2)
                go_ret
                exact ⟨by first | rfl | (simp; done) | (simp [*]; done), by repeat (first | exact Drawn0.refl _ | apply Drawn0.step)⟩
              · rw [if_neg c7] at H
                have c7b0 : (!((((rd_T47 l0 x5_1).f0).toList) == (((rd_T47 l1 x5_1).f0).toList)) || (!((((rd_T47 l0 x5_1).f1).toList) == (((rd_T47 l1 x5_1).f1).toList)))) = false := by simpa using c7
                clear c7
                have H' := Aside0.mk H
                clear H
                have p101 : 0 ≤ (x5_1 : Int) := of_decide_eq_true (by first | (with_reducible assumption) | assumption)
                have q101 : x5_1 < (l0.length : Int) := of_decide_eq_true (by first | (with_reducible assumption) | assumption)
                obtain ⟨ad101, e101, hx101_0, hx101_1⟩ := at_T47 HR0.out x5_1 p101 q101
                cases e101
                replace p101 := eq_true p101
                replace q101 := eq_true q101
                have p102 : 0 ≤ (x5_1 : Int) := of_decide_eq_true (by first | (with_reducible assumption) | assumption)
                have q102 : x5_1 < (l1.length : Int) := of_decide_eq_true (by first | (with_reducible assumption) | assumption)
                obtain ⟨ad102, e102, hx102_0, hx102_1⟩ := at_T47 HR1.out x5_1 p102 q102
                cases e102
                replace p102 := eq_true p102
                replace q102 := eq_true q102
                go_wp2
                repeat (go_quiet (fail); try go_wp2)
                go_roundg k1
                case measure => have := HK1.out; omega
                case rel => exact ⟨(wrap64 (x5_1 + 1)), (by first | rfl | (simp; done) | (simp [*]; done)), H', ⟨by have := HK1.out; omega⟩, by repeat (first | exact Drawn0.refl _ | apply Drawn0.step)⟩
            · rw [if_neg c6] at H
              exact absurd H (by simp)
          · rw [if_neg c5] at H
            exact absurd H (by simp)
        · rw [if_neg c4] at H
          have c4b0 : decide (x5_1 < (l0.length : Int)) = false := decide_eq_false c4
          clear c4
          obtain rfl := Option.some.inj H
          go_wp2
          repeat (go_quiet (fail); try go_wp2)
          go_ret
          exact ⟨by first | rfl | (simp; done) | (simp [*]; done), by repeat (first | exact Drawn0.refl _ | apply Drawn0.step)⟩
  · rw [if_neg c3] at H
    have c3b0 : ((l0.length : Int) == (l1.length : Int)) = false := beq_eq_false_iff_ne.mpr c3
    have c3b1 : ((l0.length : Int) != (l1.length : Int)) = true := bne_iff_ne.mpr c3
    have c3b2 : (l0.length == l1.length) = false := by first | simpa using c3 | (simp at c3 ⊢; omega)
    obtain rfl := Option.some.inj H
    go_enter Tryz.func16, Tryz.ntmps16
    go_wp2
    repeat (go_quiet (fail); try go_wp2)
    go_ret
    exact ⟨by first | rfl | (simp; done) | (simp [*]; done), by repeat (first | exact Drawn0.refl _ | apply Drawn0.step)⟩

end Go.Proofs.YtopajmbblemopaaGreatDoor.XSs
namespace Go.Proofs.YtopajmbblemopaaGreatDoor.XSs
open Go.RowKit Go.Proofs.YtopajmbblemopaaGreatDoorW.PrintWords Go.Proofs.YtopajmbblemopaaGreatDoorW.PrintLast Go.Proofs.YtopajmbblemopaaGreatDoorW.PrintMore
attribute [local go_sem] max2_int min2_int max_two min_two max_three min_three max_four min_four   -- for this text's walks alone
set_option linter.unusedVariables false
set_option linter.unusedSimpArgs false

end Go.Proofs.YtopajmbblemopaaGreatDoor.XSs
namespace Go.Proofs.YtopajmbblemopaaGreatDoor
set_option linter.unusedVariables false
set_option linter.unusedSimpArgs false
open Go.RowKit Go.Maps Go.Proofs.YtopajmbblemopaaGreatDoor.XSs Go.Proofs.YtopajmbblemopaaGreatDoorW.PrintWords Go.Proofs.YtopajmbblemopaaGreatDoorW.PrintLast Go.Proofs.YtopajmbblemopaaGreatDoorW.PrintMore
def pr47 (a : Txt × Txt) : S47 := ⟨str a.1, str a.2⟩
theorem str_list (t : Txt) : (str t).toList = t := by rw [bs_toList, bs_of]
theorem rd47 {l : Sh} {i : Nat} (h : i < l.length) : rd_T47 (l.map pr47) (i : Int) = pr47 l[i] := by simp [rd_T47, h]
theorem psame_l0 (x0 x1 : Sh) (hl : x0.length = x1.length) (hm : x0.length ≤ 1000000) : ∀ (d i : Nat), i + d = x0.length → furlongref05_Same.l0 (d + 1) (x0.map pr47) (x1.map pr47) (i : Int) = some (decide (x0.drop i = x1.drop i))
  | 0, i, h => by
    rw [furlongref05_Same.l0, if_neg (by rw [List.length_map]; omega), List.drop_eq_nil_of_le (by omega), List.drop_eq_nil_of_le (by omega)]
    rfl
  | d + 1, i, h => by
    have h0 : i < x0.length := by omega
    have h1 : i < x1.length := by omega
    have ih := psame_l0 x0 x1 hl hm d (i + 1) (by omega)
    have hw : wrap64 ((i : Int) + 1) = ((i + 1 : Nat) : Int) := by rw [swrap (by omega) (by omega)]; rfl
    rw [furlongref05_Same.l0, if_pos (by rw [List.length_map]; omega), if_pos (by omega), if_pos (by rw [List.length_map]; omega), rd47 h0, rd47 h1, hw, ih, List.drop_eq_getElem_cons h0, List.drop_eq_getElem_cons h1]
    unfold pr47
    simp only [str_list]
    by_cases he : x0[i] = x1[i]
    · rw [he, if_neg (by simp)]
      congr 1
      exact decide_eq_decide.2 ⟨fun q => by rw [q], fun q => (List.cons.inj q).2⟩
    · have hc : (!(x0[i].1 == x1[i].1) || !(x0[i].2 == x1[i].2)) = true := by
        cases h3 : (x0[i].1 == x1[i].1) with
        | false => rfl
        | true =>
          cases h4 : (x0[i].2 == x1[i].2) with
          | false => rfl
          | true => exact absurd (Prod.ext (beq_iff_eq.1 h3) (beq_iff_eq.1 h4)) he
      rw [if_pos hc]
      congr 1
      exact (decide_eq_false (fun q => he (List.cons.inj q).1)).symm
theorem psame_eq (x0 x1 : Sh) (hm : x0.length ≤ 1000000) : furlongref05_Same.f (x0.length + 1) (x0.map pr47) (x1.map pr47) = some (decide (x0 = x1)) := by
  unfold furlongref05_Same.f
  rw [List.length_map, List.length_map]
  by_cases hl : x0.length = x1.length
  · rw [if_pos (by omega)]
    have := psame_l0 x0 x1 hl hm x0.length 0 (by omega)
    simpa using this
  · rw [if_neg (by omega)]
    congr 1
    have : x0 ≠ x1 := fun q => hl (by rw [q])
    simp [this]
theorem reps_one {R : S47 → List Value → Prop} {a : S47} (h : R a [.string a.f0, .string a.f1]) : Reps R 2 [a] [.string a.f0, .string a.f1] := by
  refine ⟨rfl, fun j p hj => ?_⟩
  cases j with
  | zero =>
    injection hj with hj
    subst hj
    exact h
  | succ j => simp at hj
theorem reps_prs {R : S47 → List Value → Prop} (h : ∀ a : S47, R a [.string a.f0, .string a.f1]) : ∀ (l : Sh), Reps R 2 (l.map pr47) (prsV l)
  | [] => Reps.none _ _
  | a :: l => Kd.reps_append (ps := [pr47 a]) (cs := [.string (str a.1), .string (str a.2)]) (reps_one (a := pr47 a) (h _)) (reps_prs h l)
/-- A row of pairs; its block isn't among these. -/
def PRow (w : World) (S : Nat → Prop) (v : Value) (l : Sh) : Prop := ∃ B, w.ownsRow B 47 2 v l.length (prsV l) ∧ ∀ k, v.ownBlock = some k → ¬ S k
theorem PRow.nil (w : World) (S : Nat → Prop) : PRow w S (.slice none 0 0) [] := ⟨0, World.ownsRow_nil _ _ _ _, fun k hk => by simp [Value.ownBlock] at hk⟩
theorem PRow.step {S S' : Nat → Prop} {w w' : World} {v : Value} {l : Sh} (h : PRow w S v l) (c : Chg S w w') (hs : ∀ k, S' k → S k ∨ w.heap.size ≤ k) : PRow w' S' v l := by
  obtain ⟨B, ho, hk⟩ := h
  refine ⟨B, own_move ho (fun k hb => c.block k (ho.lt k hb).2 (hk k hb)), fun k hb q => ?_⟩
  have := (ho.lt k hb).2
  rcases hs k q with r | r
  · exact hk k hb r
  · omega
theorem PRow.below {S : Nat → Prop} {w w' : World} {v : Value} {l : Sh} (h : PRow w S v l) (hb : Below w.heap.size w w') : PRow w' S v l := h.step (Chg.of_below hb S) (fun _ q => .inl q)
theorem PRow.of_own {w : World} {S : Nat → Prop} {B : Nat} {v : Value} {l : Sh} (h : w.ownsRow B 47 2 v l.length (prsV l)) (hS : ∀ k, S k → k < B) : PRow w S v l := ⟨B, h, fun k hk q => by
  have := (h.lt k hk).1
  have := hS k q
  omega⟩
theorem PRow.reads {w : World} {S : Nat → Prop} {v : Value} {l : Sh} (h : PRow w S v l) : ∃ A c, v = .slice A l.length c ∧ l.length ≤ c ∧ Kd.C k47 w A l.length (l.map pr47) := by
  obtain ⟨B, ho, _⟩ := h
  have hR : Kd.R k47 47 w B (fun _ => True) v (l.map pr47) := ⟨fun _ _ => trivial, prsV l, by rw [List.length_map]; exact ho, reps_prs (fun a => k47_mkM w B _ a) l⟩
  obtain ⟨A, c, rfl, hc, hC⟩ := Kd.R_reads hR
  rw [List.length_map] at hc hC ⊢
  exact ⟨A, c, rfl, hc, hC⟩
theorem psame_call {w : World} {v0 v1 : Value} {l0 l1 : Sh} {S0 S1 : Nat → Prop} (h0 : PRow w S0 v0 l0) (h1 : PRow w S1 v1 l1) (hm : l0.length ≤ 1000000) :
    Calls Tryz.prog 16 #[v0, v1] w fun e w' => e = .returned (.bool (decide (l0 = l1))) ∧ Drawn0 w w' := by
  obtain ⟨A0, c0, rfl, h2, h3⟩ := h0.reads
  obtain ⟨A1, c1, rfl, h4, h5⟩ := h1.reads
  have e0 : (l0.map pr47).length = l0.length := List.length_map _
  have e1 : (l1.map pr47).length = l1.length := List.length_map _
  have := furlongref05_Same.calls (l0.length + 1) A0 c0 (l0.map pr47) A1 c1 (l1.map pr47) _ w (by rw [e0]; exact h3) (by omega) (by rw [e1]; exact h5) (by omega) (psame_eq l0 l1 hm)
  rw [e0, e1] at this
  exact this
/-- Pairs written out. -/
theorem prs_len : ∀ (l : Sh), (prsV l).length = l.length * 2
  | [] => rfl
  | a :: l => by
    show (prsV l).length + 1 + 1 = _
    rw [prs_len l, List.length_cons]
    omega
theorem PRow.lit (W : World) (l : Sh) (S : Nat → Prop) (hl : l.length ≤ 1000000) (hS : ∀ k, S k → k < W.heap.size) : PRow (W.alloc (.cells (prsV l).toArray 47)) S (.slice (some ⟨W.heap.size, 0, none⟩) l.length l.length) l := by
  refine PRow.of_own (B := W.heap.size) ?_ hS
  have := World.ownsRow_lit (base := W.heap.size) (e := 47) (size := 2) W (prsV l).toArray l.length (Nat.le_refl _) (by unfold maxLen; omega) (by simp [prs_len])
  simpa using this
theorem chs_len : ∀ (l : List MC), (chsV l).length = l.length * 3
  | [] => rfl
  | a :: l => by
    show (chsV l).length + 1 + 1 + 1 = _
    rw [chs_len l, List.length_cons]
    omega
/-- Changes written out. -/
theorem ChAt.lit (W : World) (l : List MC) (hl : l.length ≤ 1000000) (hs : ∀ c ∈ l, c.key.size ≤ maxLen ∧ c.val.size ≤ maxLen) : ChAt (W.alloc (.cells (chsV l).toArray 51)) (some ⟨W.heap.size, 0, none⟩) l := by
  have := World.ownsRow_lit (base := W.heap.size) (e := 51) (size := 3) W (chsV l).toArray l.length (Nat.le_refl _) (by unfold maxLen; omega) (by simp [chs_len])
  obtain ⟨A, c, hv, _, h, _⟩ := ch_of_row (w := W.alloc (.cells (chsV l).toArray 51)) (l := l) (by simpa using this) hs
  injection hv with h1
  subst h1
  exact h
end Go.Proofs.YtopajmbblemopaaGreatDoor
