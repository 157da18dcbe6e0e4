/-
  Lemmas, joined of the texts L5 L6 LO L7 L8 LB L9 LA LC LD LP1 LP2 LP3 LP4 S3.
-/
import Derived.Test.YtopajmbblemopaaGreatDoorMB21
import Derived.Shelf.Abstract
import Derived.Deep.RegionHeld
import Derived.Deep.RegionWith
import Derived.Test.YtopajmbblemopaaGreatDoorMB6
namespace Go.Proofs.YtopajmbblemopaaGreatDoor
set_option linter.unusedVariables false
set_option linter.unusedSimpArgs false
open Go.RowKit Go.Proofs.YtopajmbblemopaaGreatDoor.XPg
/-- The first error. -/
def firstE : List Int → Int
  | [] => 0
  | e :: l => if e = 0 then firstE l else e
/-- How many steps were done. -/
def doneN : List Int → Nat
  | [] => 0
  | e :: l => if e = 0 then doneN l + 1 else 1
theorem first_drop : ∀ (es : List Int) (k : Nat), (∀ j, j < k → es[j]? = some 0) → firstE es = firstE (es.drop k) ∧ doneN es = k + doneN (es.drop k)
  | es, 0, _ => by simp
  | [], k + 1, h => by
    have := h 0 (by omega)
    simp at this
  | e :: l, k + 1, h => by
    have h0 := h 0 (by omega)
    simp only [List.getElem?_cons_zero, Option.some.injEq] at h0
    subst h0
    obtain ⟨a, b⟩ := first_drop l k (fun j hj => by have := h (j + 1) (by omega); simpa using this)
    rw [List.drop_succ_cons]
    simp only [firstE, doneN, if_true]
    exact ⟨a, by omega⟩
structure StepsAt (S : Nat → World → Prop) (gb off : Nat) (fs : List (Nat × Array Value)) (es : List Int) : Prop where
  len : es.length = fs.length
  cell : ∀ k w, S k w → ∀ g c, fs[k]? = some (g, c) → w.cell? ⟨gb, off + k, none⟩ = some (.func (.func g) #[] c)
  step : ∀ k g c e, fs[k]? = some (g, c) → es[k]? = some e → ∀ w, S k w → Calls Tryz.prog g c w fun r w' => r = .returned (.int .i64 e) ∧ S (k + 1) w'
  enter : ∀ (k g : Nat) c, fs[k]? = some (g, c) → ∀ args w, (callFunc g args).run Tryz.prog w = .ok (.enter g args) w
set_option maxHeartbeats 800000 in
theorem steps_walk (S : Nat → World → Prop) (gb off cap : Nat) (fs : List (Nat × Array Value)) (es : List Int) (n : Nat) (hn : fs.length = n) (hl : n ≤ 1000) (H : StepsAt S gb off fs es) (w : World) (h0 : S 0 w) :
    Calls Tryz.prog 57 #[.slice (some ⟨gb, off, none⟩) n cap] w fun r w' => r = .returned (.int .i64 (firstE es)) ∧ S (doneN es) w' := by
  have HH := hd H
  have HN := hd hn
  have H0 := hd h0
  clear H hn h0
  go_enter Tryz.func57, Tryz.ntmps57
  go_wp2
  go_loopw [8] (fun i wr => ∃ k : Nat, k ≤ n ∧ i = .int .i64 k ∧ Hd (S k wr) ∧ Hd (∀ j, j < k → es[j]? = some 0)) (fun i _ => n - (RowKit.intOf i).toNat)
  case atStart => exact ⟨0, by omega, rfl, H0, hd (fun j hj => by omega)⟩
  case round =>
    obtain ⟨k, hk, rfl, HS, HZ⟩ := hrel
    by_cases hlt : k < n
    · obtain ⟨g, c, hg⟩ : ∃ g c, fs[k]? = some (g, c) := ⟨_, _, List.getElem?_eq_getElem (by have := HN.out; omega)⟩
      obtain ⟨e, he⟩ : ∃ e, es[k]? = some e := ⟨_, List.getElem?_eq_getElem (by have := HN.out; have := HH.out.len; omega)⟩
      have c0 := HH.out.cell k wr HS.out g c hg
      have HC := hd (HH.out.step k g c e hg he wr HS.out)
      have eg := HH.out.enter k g c hg
      have HE := hd he
      clear he hg
      by_cases h1 : e = 0
      · subst h1
        go_wp2_with (go_at_fn g; refine HC.out.mono ?_; rintro r w1 ⟨rfl, q⟩; have HS1 := hd q; clear q)
        go_roundw
        case rel =>
          refine ⟨k + 1, by omega, by go_num, HS1, hd (fun j hj => ?_)⟩
          rcases Nat.lt_succ_iff_lt_or_eq.1 hj with q | q
          · exact HZ.out j q
          · rw [q]
            exact HE.out
        case measure => simp [RowKit.intOf]; omega
      · have h2 : (e != 0) = true := by simpa using h1
        go_wp2_with (go_at_fn g; refine HC.out.mono ?_; rintro r w1 ⟨rfl, q⟩; have HS1 := hd q; clear q)
        go_ret
        obtain ⟨a, b⟩ := first_drop es k HZ.out
        have hd1 : es.drop k = e :: es.drop (k + 1) := by
          have hlk := (List.getElem?_eq_some_iff.1 HE.out).1
          rw [List.drop_eq_getElem_cons hlk, (List.getElem?_eq_some_iff.1 HE.out).2]
        rw [hd1] at a b
        simp only [firstE, doneN, if_neg h1] at a b
        rw [a, b]
        exact ⟨rfl, HS1.out⟩
    · have hk' : k = n := by omega
      subst hk'
      go_wp2
      go_ret
      obtain ⟨a, b⟩ := first_drop es k HZ.out
      have hd1 : es.drop k = [] := List.drop_eq_nil_of_le (by have := HH.out.len; have := HN.out; omega)
      rw [hd1] at a b
      simp only [firstE, doneN] at a b
      rw [a, b]
      exact ⟨rfl, HS.out⟩
end Go.Proofs.YtopajmbblemopaaGreatDoor
namespace Go.Proofs.YtopajmbblemopaaGreatDoor
set_option linter.unusedVariables false
set_option linter.unusedSimpArgs false
open Go.RowKit Go.Proofs.YtopajmbblemopaaGreatDoor.XPg
theorem res4 {fn : Func} {t u v x : Tmp} (h : fn.results = #[.tmp t, .tmp u, .tmp v, .tmp x]) (tmps : Array Value) (P : Program) (w : World) :
    (results fn tmps).run P w = .ok (.tuple #[tmps.getD t undef, tmps.getD u undef, tmps.getD v undef, tmps.getD x undef]) w := by
  simp [results, h]
theorem mkclr_walk (tb rb : Option Addr) (t : Int) (w : World) :
    Calls Tryz.prog 54 #[.int .i64 t, .pointer tb, .pointer rb] w fun e w' =>
      e = .returned (.func (.func 55) #[] #[.pointer tb, .pointer (some ⟨w.heap.size, 0, none⟩), .pointer rb]) ∧ w' = w.alloc (.cells #[.int .i64 t] 3) := by
  have hmf : ∀ (fn : Fn) (first cap : Array Value) (w : World), (Instr.makeFunc fn first cap).run Tryz.prog w = .ok (.func fn first cap) w := fun _ _ _ _ => rfl
  go_enter Tryz.func54, Tryz.ntmps54
  go_wp2
  go_ret
  exact ⟨rfl, rfl⟩
end Go.Proofs.YtopajmbblemopaaGreatDoor
namespace Go.Proofs.YtopajmbblemopaaGreatDoor
set_option linter.unusedVariables false
set_option linter.unusedSimpArgs false
open Go.RowKit Go.Proofs.YtopajmbblemopaaGreatDoor.XPg
/-- The states ahead of each step, as if none had failed. -/
def stAt (s : RS) : List (RS → RS × Int) → Nat → RS
  | _, 0 => s
  | [], _ + 1 => s
  | f :: l, k + 1 => stAt (f s).1 l k
def errsOf (s : RS) : List (RS → RS × Int) → List Int
  | [] => []
  | f :: l => (f s).2 :: errsOf (f s).1 l
def tapeOf (s : RS) (t : Int) : Txt := s.safe t ++ s.rest t
/-- The tape that is taken, and what it has. -/
def pickT (x0 x1 : Txt) : Int := if (scanL x0).1 < (scanL x1).1 then 1 else 0
def pickC (x0 x1 : Txt) : Int × Txt × List Txt × Nat := if (scanL x0).1 < (scanL x1).1 then scanL x1 else scanL x0
def newSteps (x0 x1 : Txt) : List (RS → RS × Int) := [fun s => clr s 0 x0, fun s => clr s 1 x1, fun s => s.write 0 (laidL kBase 1 []), fun s => s.sync 0]
def oldSteps (x0 x1 : Txt) : List (RS → RS × Int) :=
  [fun s => cutTo s (pickT x0 x1) (pickC x0 x1).2.2.2 (if pickT x0 x1 = 0 then x0 else x1).length, fun s => clr s (1 - pickT x0 x1) (if pickT x0 x1 = 0 then x1 else x0)]
def openSteps (x0 x1 : Txt) : List (RS → RS × Int) := if (pickC x0 x1).1 = 0 then newSteps x0 x1 else oldSteps x0 x1
def openOf (x0 x1 : Txt) : LS := ⟨pickT x0 x1, if (pickC x0 x1).1 = 0 then 1 else (pickC x0 x1).1, ((pickC x0 x1).2.2.1.length : Int), false⟩
/-- Opening: the reel behind it, the error. -/
def openM (s : RS) : RS × Int :=
  if s.dead = true then (s, 30)
  else (stAt s (openSteps (tapeOf s 0) (tapeOf s 1)) (doneN (errsOf s (openSteps (tapeOf s 0) (tapeOf s 1)))), firstE (errsOf s (openSteps (tapeOf s 0) (tapeOf s 1))))
theorem errs_length : ∀ (l : List (RS → RS × Int)) (s : RS), (errsOf s l).length = l.length
  | [], _ => rfl
  | f :: l, s => by simp [errsOf, errs_length l]
theorem stAt_succ : ∀ (l : List (RS → RS × Int)) (s : RS) (k : Nat) (f : RS → RS × Int), l[k]? = some f → stAt s l (k + 1) = (f (stAt s l k)).1 ∧ (errsOf s l)[k]? = some (f (stAt s l k)).2
  | [], _, _, _, h => by simp at h
  | g :: l, s, 0, f, h => by
    simp only [List.getElem?_cons_zero, Option.some.injEq] at h
    subst h
    exact ⟨by simp [stAt], by simp [errsOf, stAt]⟩
  | g :: l, s, k + 1, f, h => by
    obtain ⟨a, b⟩ := stAt_succ l (g s).1 k f (by simpa using h)
    exact ⟨a, by
      show (errsOf (g s).1 l)[k]? = _
      exact b⟩
theorem scanGo_facts : ∀ (f N : Nat) (s : Txt) (e : Int) (b : Txt) (l : List Txt) (r : Nat), r ≤ N → 0 ≤ e → e ≤ topEpoch → l.length + s.length ≤ N →
    0 ≤ (scanGo f N s e b l r).1 ∧ (scanGo f N s e b l r).1 ≤ topEpoch ∧ (scanGo f N s e b l r).2.2.1.length ≤ N ∧ (scanGo f N s e b l r).2.2.2 ≤ N
  | 0, N, s, e, b, l, r, hr, h0, h1, hl => ⟨h0, h1, by simp only [scanGo]; omega, hr⟩
  | f + 1, N, s, e, b, l, r, hr, h0, h1, hl => by
    rw [scanGo]
    cases hq : readL s with
    | none => exact ⟨h0, h1, by simp only; omega, hr⟩
    | some p =>
      obtain ⟨⟨k, n, t⟩, s'⟩ := p
      have hlen := read_len hq
      simp only
      split
      · rename_i hc
        exact scanGo_facts f N s' n t l (N - s'.length) (by omega) (by omega) hc.2.2.2 (by omega)
      · split
        · exact scanGo_facts f N s' e b (l ++ [t]) (N - s'.length) (by omega) h0 h1 (by simp; omega)
        · exact ⟨h0, h1, by simp only; omega, hr⟩
theorem scanL_facts (s : Txt) : 0 ≤ (scanL s).1 ∧ (scanL s).1 ≤ topEpoch ∧ (scanL s).2.2.1.length ≤ s.length ∧ (scanL s).2.2.2 ≤ s.length :=
  scanGo_facts _ _ _ _ _ _ _ (by omega) (by omega) (by decide) (by simp)
end Go.Proofs.YtopajmbblemopaaGreatDoor
namespace Go.Proofs.YtopajmbblemopaaGreatDoor
set_option linter.unusedVariables false
set_option linter.unusedSimpArgs false
open Go.RowKit Go.Proofs.YtopajmbblemopaaGreatDoor.XPg
theorem open_dead (b : Nat) (s : RS) (fp : List Nat) (w : World) (hR : ReelAt w b s fp) (hd0 : s.dead = true) :
    Calls Tryz.prog 32 #[.pointer (some ⟨b, 0, none⟩)] w fun e w' => e = .returned (.tuple #[.pointer none, .string ⟨#[]⟩, .slice none 0 0, .int .i64 30]) ∧ Below w.heap.size w w' := by
  have HR : Hd (∀ w1, Below w.heap.size w w1 → Calls Tryz.prog 52 #[.pointer (some ⟨b, 0, none⟩), .int .i64 0] w1 fun e w' => e = .returned (.tuple #[.string (str []), .int .i64 30]) ∧ Below w.heap.size w w') := by
    refine hd fun w1 hb => ?_
    refine (read_any b 0 s fp w1 (hR.chg (Chg.of_below hb (fun _ => False)) (fun _ _ q => q))).mono ?_
    rintro e w' ⟨rfl, n, rfl⟩
    have hr : s.read 0 = ([], 30) := by unfold RS.read; rw [if_neg (by omega), if_pos hd0]
    rw [hr]
    exact ⟨rfl, hb.trans ⟨rfl, rfl, rfl, Nat.le_refl _, fun _ _ => rfl⟩⟩
  have HB : Hd (∀ o1 o2 o3, Below w.heap.size w (((w.alloc o1).alloc o2).alloc o3)) := hd fun o1 o2 o3 => (((Below.refl w.heap.size w).alloc (Nat.le_refl _) _).alloc (by simp) _).alloc (by simp; omega) _
  clear hR hd0
  go_enter Tryz.func32, Tryz.ntmps32
  go_wp2
  refine wp_loop_rounds 1 ?_
  rw [rounds_succ]
  go_wp2_with (go_at_call 52; refine (HR.out _ (HB.out _ _ _)).mono ?_; rintro e w1 ⟨rfl, hb⟩)
  refine bodyPost_ret (res4 rfl _ _ _) rfl ?_
  exact ⟨rfl, hb⟩
end Go.Proofs.YtopajmbblemopaaGreatDoor
namespace Go.Proofs.YtopajmbblemopaaGreatDoor
set_option linter.unusedVariables false
set_option linter.unusedSimpArgs false
open Go.RowKit Go.Proofs.YtopajmbblemopaaGreatDoor.XPg Go.Proofs.YtopajmbblemopaaGreatDoorW.PrintWords Go.Proofs.YtopajmbblemopaaGreatDoorW.PrintLast
theorem scan_call (x : ByteArray) (w : World) (hG : Gl w) (hx : x.size ≤ 4294967000) :
    Calls Tryz.prog 53 #[.string x] w fun e w' => ∃ v, e = .returned (.agg #[.int .i64 (scanL (bsL x)).1, .string (str (scanL (bsL x)).2.1), v, .int .i64 ((scanL (bsL x)).2.2.2 : Nat)]) ∧
      Kd.R Kd.string 9 w' w.heap.size (fun _ => True) v ((scanL (bsL x)).2.2.1.map str) ∧ Below w.heap.size w w' :=
  ledger_scan.calls (3 * x.size + 10) x _ _ _ _ w (scan_eq x _ hx (Nat.le_refl _)) hG
end Go.Proofs.YtopajmbblemopaaGreatDoor
namespace Go.Proofs.YtopajmbblemopaaGreatDoor
set_option linter.unusedVariables false
set_option linter.unusedSimpArgs false
open Go.RowKit
theorem Blk.below {w w' : World} {b : Nat} {cs : List Value} {T : TypeId} (h : Blk w b cs T) (k : Below w.heap.size w w') : Blk w' b cs T := h.chg (Chg.of_below k (fun _ => False)) (fun q => q)
/-- The world behind a round. -/
def roundW (w2 : World) (t h i j : Nat) (x a0 a1 a2 a3 : Value) : World := ((((w2.setCell ⟨t, i, none⟩ x).setCell ⟨h, j, none⟩ a0).setCell ⟨h, j + 1, none⟩ a1).setCell ⟨h, j + 2, none⟩ a2).setCell ⟨h, j + 3, none⟩ a3
theorem round_blks (w2 : World) (r t h i j : Nat) (x a0 a1 a2 a3 : Value) (hrt : r ≠ t) (hrh : r ≠ h) (hth : t ≠ h) (csr cst csh : List Value) (Tr Tt Th : TypeId)
    (br : Blk w2 r csr Tr) (bt' : Blk w2 t cst Tt) (bh : Blk w2 h csh Th) :
    Blk (roundW w2 t h i j x a0 a1 a2 a3) r csr Tr ∧ Blk (roundW w2 t h i j x a0 a1 a2 a3) t (cst.set i x) Tt ∧
    Blk (roundW w2 t h i j x a0 a1 a2 a3) h ((((csh.set j a0).set (j + 1) a1).set (j + 2) a2).set (j + 3) a3) Th ∧
    Chg (fun k => k = t ∨ k = h) w2 (roundW w2 t h i j x a0 a1 a2 a3) := by
  refine ⟨?_, ?_, ?_, ?_⟩
  · exact ((((br.other hrt x).other hrh a0).other hrh a1).other hrh a2).other hrh a3
  · exact ((((bt'.set i x).other hth a0).other hth a1).other hth a2).other hth a3
  · exact ((((bh.other (fun q => hth q.symm) x).set j a0).set (j + 1) a1).set (j + 2) a2).set (j + 3) a3
  · exact (((((Chg.refl _ w2).setCell (.inl (.inl rfl)) x).setCell (.inl (.inr rfl)) a0).setCell (.inl (.inr rfl)) a1).setCell (.inl (.inr rfl)) a2).setCell (.inl (.inr rfl)) a3
end Go.Proofs.YtopajmbblemopaaGreatDoor
namespace Go.Proofs.YtopajmbblemopaaGreatDoor
set_option linter.unusedVariables false
set_option linter.unusedSimpArgs false
open Go.RowKit Go.Proofs.YtopajmbblemopaaGreatDoor.XPg Go.Proofs.YtopajmbblemopaaGreatDoorW.PrintWords Go.Proofs.YtopajmbblemopaaGreatDoorW.PrintLast
theorem RPost.belowAll {w0 w w' : World} {b : Nat} {s : RS} {fp : List Nat} (hb : Below w0.heap.size w0 w) (hf : ∀ k ∈ fp, w0.heap.size ≤ k) (h : RPost w b fp s w') : Below w0.heap.size w0 w' := by
  obtain ⟨fp', hR, hC, hF⟩ := h
  exact hb.trans (hC.below hb.size hf)
/-- The row of functions that steps is handed. -/
def newFs (rb tb k0 k1 : Nat) : List (Nat × Array Value) :=
  [(55, #[.pointer (some ⟨tb, 0, none⟩), .pointer (some ⟨k0, 0, none⟩), .pointer (some ⟨rb, 0, none⟩)]),
   (55, #[.pointer (some ⟨tb, 0, none⟩), .pointer (some ⟨k1, 0, none⟩), .pointer (some ⟨rb, 0, none⟩)]),
   (58, #[.pointer (some ⟨rb, 0, none⟩)]), (61, #[.pointer (some ⟨rb, 0, none⟩)])]
def oldFs (rb tb cb t0 k1 : Nat) : List (Nat × Array Value) :=
  [(63, #[.pointer (some ⟨cb, 0, none⟩), .pointer (some ⟨tb, 0, none⟩), .pointer (some ⟨t0, 0, none⟩), .pointer (some ⟨rb, 0, none⟩)]),
   (55, #[.pointer (some ⟨tb, 0, none⟩), .pointer (some ⟨k1, 0, none⟩), .pointer (some ⟨rb, 0, none⟩)])]
def CellsOf (W : World) (gb : Nat) (l : List (Nat × Array Value)) : Prop := ∀ k g c, l[k]? = some (g, c) → W.cell? ⟨gb, k, none⟩ = some (.func (.func g) #[] c)
theorem steps_new (w0 W : World) (hG : Gl w0) (hb0 : Below w0.heap.size w0 W) (b rb tb k0 k1 gb cap : Nat) (x0 x1 : ByteArray) (s : RS) (fp : List Nat) (hR : ReelAt W b s fp) (hf : ∀ k ∈ fp, w0.heap.size ≤ k)
    (nr : rb ∉ fp) (nt : tb ∉ fp) (n0 : k0 ∉ fp) (n1 : k1 ∉ fp) (ng : gb ∉ fp)
    (cr : W.cell? ⟨rb, 0, none⟩ = some (.pointer (some ⟨b, 0, none⟩))) (ct0 : W.cell? ⟨tb, 0, none⟩ = some (.string x0)) (ct1 : W.cell? ⟨tb, 1, none⟩ = some (.string x1))
    (ck0 : W.cell? ⟨k0, 0, none⟩ = some (.int .i64 0)) (ck1 : W.cell? ⟨k1, 0, none⟩ = some (.int .i64 1)) (cg : CellsOf W gb (newFs rb tb k0 k1)) :
    Calls Tryz.prog 57 #[.slice (some ⟨gb, 0, none⟩) 4 cap] W fun r w' => r = .returned (.int .i64 (firstE (errsOf s (newSteps (bsL x0) (bsL x1))))) ∧
      RPost W b fp (stAt s (newSteps (bsL x0) (bsL x1)) (doneN (errsOf s (newSteps (bsL x0) (bsL x1))))) w' := by
  refine steps_walk (fun k w => RPost W b fp (stAt s (newSteps (bsL x0) (bsL x1)) k) w) gb 0 cap (newFs rb tb k0 k1) _ 4 rfl (by omega) ⟨?_, ?_, ?_, ?_⟩ W (RPost.self hR)
  · rw [errs_length]; rfl
  · intro k w hS g c hg
    rw [Nat.zero_add]
    exact hS.cell (cg k g c hg) ng
  · intro k g c e hg he w hS
    have hGw := gl_below hG (RPost.belowAll hb0 hf hS)
    have r1 := hS.cell cr nr
    have r2 := hS.cell ct0 nt
    have r3 := hS.cell ct1 nt
    have r4 := hS.cell ck0 n0
    have r5 := hS.cell ck1 n1
    obtain ⟨fp2, hR2, hC, hF⟩ := hS
    have nr2 : rb ∉ fp2 := fun q => (hF rb q).elim nr (fun q => by have := World.block_lt_of_cell? W _ cr; simp only at this; omega)
    match k, hg with
    | 0, hg =>
      obtain ⟨h1, h2⟩ := stAt_succ (newSteps (bsL x0) (bsL x1)) s 0 _ rfl
      rw [h2] at he
      cases he
      cases hg
      rw [h1]
      refine (clr_walk tb k0 rb b 0 x0 _ fp2 w hR2 (.inl rfl) r2 r4 r1).mono ?_
      rintro r w' ⟨rfl, hp⟩
      exact ⟨rfl, RPost.trans hC hF hp⟩
    | 1, hg =>
      obtain ⟨h1, h2⟩ := stAt_succ (newSteps (bsL x0) (bsL x1)) s 1 _ rfl
      rw [h2] at he
      cases he
      cases hg
      rw [h1]
      refine (clr_walk tb k1 rb b 1 x1 _ fp2 w hR2 (.inr rfl) r3 r5 r1).mono ?_
      rintro r w' ⟨rfl, hp⟩
      exact ⟨rfl, RPost.trans hC hF hp⟩
    | 2, hg =>
      obtain ⟨h1, h2⟩ := stAt_succ (newSteps (bsL x0) (bsL x1)) s 2 _ rfl
      rw [h2] at he
      cases he
      cases hg
      rw [h1]
      refine (first_walk rb b _ fp2 w hGw nr2 hR2 r1).mono ?_
      rintro r w' ⟨rfl, hp⟩
      exact ⟨rfl, RPost.trans hC hF hp⟩
    | 3, hg =>
      obtain ⟨h1, h2⟩ := stAt_succ (newSteps (bsL x0) (bsL x1)) s 3 _ rfl
      rw [h2] at he
      cases he
      cases hg
      rw [h1]
      refine (safe_walk rb b _ fp2 w hR2 r1).mono ?_
      rintro r w' ⟨rfl, hp⟩
      exact ⟨rfl, RPost.trans hC hF hp⟩
    | k + 4, hg => simp [newFs] at hg
  · intro k g c hg
    match k, hg with
    | 0, hg => cases hg; exact enters_of Tryz.func55 (by kernel_rfl) rfl
    | 1, hg => cases hg; exact enters_of Tryz.func55 (by kernel_rfl) rfl
    | 2, hg => cases hg; exact enters_of Tryz.func58 (by kernel_rfl) rfl
    | 3, hg => cases hg; exact enters_of Tryz.func61 (by kernel_rfl) rfl
    | k + 4, hg => simp [newFs] at hg
theorem steps_old (w0 W : World) (hb0 : Below w0.heap.size w0 W) (b rb tb cb t0 k1 gb cap : Nat) (x0 x1 : ByteArray) (t : Int) (ht : t = 0 ∨ t = 1) (n : Nat) (s : RS) (fp : List Nat) (hR : ReelAt W b s fp)
    (nr : rb ∉ fp) (nt : tb ∉ fp) (n0 : t0 ∉ fp) (n1 : k1 ∉ fp) (ng : gb ∉ fp) (nc : cb ∉ fp) (hs0 : x0.size ≤ 4294967000) (hs1 : x1.size ≤ 4294967000)
    (cr : W.cell? ⟨rb, 0, none⟩ = some (.pointer (some ⟨b, 0, none⟩))) (ct0 : W.cell? ⟨tb, 0, none⟩ = some (.string x0)) (ct1 : W.cell? ⟨tb, 1, none⟩ = some (.string x1)) (cc : W.cell? ⟨cb, 3, none⟩ = some (.int .i64 n))
    (ck0 : W.cell? ⟨t0, 0, none⟩ = some (.int .i64 t)) (ck1 : W.cell? ⟨k1, 0, none⟩ = some (.int .i64 (1 - t))) (cg : CellsOf W gb (oldFs rb tb cb t0 k1)) (l : List (RS → RS × Int))
    (hl : l = [fun s => cutTo s t n (if t = 0 then bsL x0 else bsL x1).length, fun s => clr s (1 - t) (if t = 0 then bsL x1 else bsL x0)]) :
    Calls Tryz.prog 57 #[.slice (some ⟨gb, 0, none⟩) 2 cap] W fun r w' => r = .returned (.int .i64 (firstE (errsOf s l))) ∧ RPost W b fp (stAt s l (doneN (errsOf s l))) w' := by
  refine steps_walk (fun k w => RPost W b fp (stAt s l k) w) gb 0 cap (oldFs rb tb cb t0 k1) _ 2 rfl (by omega) ⟨?_, ?_, ?_, ?_⟩ W (by rw [show stAt s l 0 = s by cases l <;> rfl]; exact RPost.self hR)
  · rw [errs_length, hl]; rfl
  · intro k w hS g c hg
    rw [Nat.zero_add]
    exact hS.cell (cg k g c hg) ng
  · intro k g c e hg he w hS
    have r1 := hS.cell cr nr
    have r2 := hS.cell ct0 nt
    have r3 := hS.cell ct1 nt
    have r4 := hS.cell ck0 n0
    have r5 := hS.cell ck1 n1
    have r6 := hS.cell cc nc
    obtain ⟨fp2, hR2, hC, hF⟩ := hS
    match k, hg with
    | 0, hg =>
      obtain ⟨h1, h2⟩ := stAt_succ l s 0 _ (by rw [hl]; rfl)
      rw [h2] at he
      cases he
      cases hg
      rw [h1]
      rcases ht with rfl | rfl
      · refine (cut_walk cb tb t0 rb b 0 n x0 _ fp2 w hR2 (.inl rfl) r6 r2 r4 r1 hs0).mono ?_
        rintro r w' ⟨rfl, hp⟩
        rw [if_pos rfl, bs_size]
        exact ⟨rfl, RPost.trans hC hF hp⟩
      · refine (cut_walk cb tb t0 rb b 1 n x1 _ fp2 w hR2 (.inr rfl) r6 r3 r4 r1 hs1).mono ?_
        rintro r w' ⟨rfl, hp⟩
        rw [if_neg (by decide), bs_size]
        exact ⟨rfl, RPost.trans hC hF hp⟩
    | 1, hg =>
      obtain ⟨h1, h2⟩ := stAt_succ l s 1 _ (by rw [hl]; rfl)
      rw [h2] at he
      cases he
      cases hg
      rw [h1]
      rcases ht with rfl | rfl
      · refine (clr_walk tb k1 rb b 1 x1 _ fp2 w hR2 (.inr rfl) r3 r5 r1).mono ?_
        rintro r w' ⟨rfl, hp⟩
        exact ⟨rfl, RPost.trans hC hF hp⟩
      · refine (clr_walk tb k1 rb b 0 x0 _ fp2 w hR2 (.inl rfl) r2 r5 r1).mono ?_
        rintro r w' ⟨rfl, hp⟩
        exact ⟨rfl, RPost.trans hC hF hp⟩
    | k + 2, hg => simp [oldFs] at hg
  · intro k g c hg
    match k, hg with
    | 0, hg => cases hg; exact enters_of Tryz.func63 (by kernel_rfl) rfl
    | 1, hg => cases hg; exact enters_of Tryz.func55 (by kernel_rfl) rfl
    | k + 2, hg => simp [oldFs] at hg
end Go.Proofs.YtopajmbblemopaaGreatDoor
namespace Go.Proofs.YtopajmbblemopaaGreatDoor
set_option linter.unusedVariables false
set_option linter.unusedSimpArgs false
open Go.RowKit Go.Proofs.YtopajmbblemopaaGreatDoor.XPg Go.Proofs.YtopajmbblemopaaGreatDoorW.PrintWords Go.Proofs.YtopajmbblemopaaGreatDoorW.PrintLast
/-- What Open leaves. -/
def OpenPost (w : World) (b : Nat) (fp : List Nat) (s' : RS) (er : Int) (L : LS) (base : ByteArray) (recs : List ByteArray) (e : Ending) (w' : World) : Prop :=
  ∃ fp', ReelAt w' b s' fp' ∧ Chg (· ∈ fp) w w' ∧ (∀ k ∈ fp', k ∈ fp ∨ w.heap.size ≤ k) ∧
    ((er ≠ 0 ∧ e = .returned (.tuple #[.pointer none, .string ⟨#[]⟩, .slice none 0 0, .int .i64 er])) ∨
      (er = 0 ∧ ∃ lb v B, e = .returned (.tuple #[.pointer (some ⟨lb, 0, none⟩), .string base, v, .int .i64 0]) ∧ w.heap.size ≤ lb ∧ lb ∉ fp' ∧ Blk w' lb (LCells b L) 117 ∧
        w.heap.size ≤ B ∧ Kd.R Kd.string 9 w' B (fun k => B ≤ k ∧ k ∉ fp' ∧ k ≠ lb) v recs))
theorem open_fail {w w' : World} {b : Nat} {fp : List Nat} {s' : RS} {er : Int} {L : LS} {base : ByteArray} {recs : List ByteArray} (h : RPost w b fp s' w') (he : er ≠ 0) :
    OpenPost w b fp s' er L base recs (.returned (.tuple #[.pointer none, .string ⟨#[]⟩, .slice none 0 0, .int .i64 er])) w' := by
  obtain ⟨fp', a, c, f⟩ := h
  exact ⟨fp', a, c, f, .inl ⟨he, rfl⟩⟩
theorem open_done {w W w' : World} {b B : Nat} {fp : List Nat} {s' : RS} {L : LS} {base : ByteArray} {recs : List ByteArray} {v : Value} {ok : Nat → Prop} (hfp : ∀ k ∈ fp, k < w.heap.size) (hb : Below w.heap.size w W) (h : RPost W b fp s' w') (hB : w.heap.size ≤ B)
    (hv : Kd.R Kd.string 9 W B ok v recs) :
    OpenPost w b fp s' 0 L base recs (.returned (.tuple #[.pointer (some ⟨w'.heap.size, 0, none⟩), .string base, v, .int .i64 0])) (w'.alloc (.cells (LCells b L).toArray 117)) := by
  have h' := RPost.below hb h
  obtain ⟨fp', a, c, f⟩ := h
  have hlt := a.lt
  have hs := c.size
  have hs0 := hb.size
  have c0 : Chg (· ∈ fp) w w' := (Chg.of_below hb _).trans c (fun i q => .inl q)
  have ca : Chg (fun _ => False) w' (w'.alloc (.cells (LCells b L).toArray 117)) := (Chg.refl _ w').alloc _
  refine ⟨fp', a.chg ca (fun _ _ q => q), c0.trans ca (fun _ q => q.elim), fun k hk => (f k hk).elim .inl (fun q => .inr (by omega)), .inr ⟨rfl, w'.heap.size, v, B, rfl, by omega, fun q => Nat.lt_irrefl _ (hlt _ q), Blk.new _ _ _, hB, ?_⟩⟩
  have h1 := Kd.R_bound hv
  have h2 : Kd.R Kd.string 9 W B (fun k => B ≤ k ∧ k < W.heap.size) v recs := Kd.R_mono h1 (fun k hk => ⟨hk.2.1, hk.2.2.1⟩)
  have h3 : Kd.R Kd.string 9 w' B (fun k => B ≤ k ∧ k < W.heap.size) v recs := Kd.R_step h2 (fun k hk hk2 => c.block k hk2 (fun q => by have := hfp k q; omega))
  have h4 : Kd.R Kd.string 9 (w'.alloc (.cells (LCells b L).toArray 117)) B (fun k => B ≤ k ∧ k < W.heap.size) v recs := Kd.R_step h3 (fun k hk hk2 => Below.heap_alloc _ _ _ hk2)
  refine Kd.R_mono h4 (fun k hk => ⟨hk.1, fun q => ?_, by omega⟩)
  rcases f k q with q | q
  · have := hfp k q; omega
  · omega
/-- The cells that are read behind the steps. -/
def Behind (w' : World) (rb tb cb : Nat) (b : Nat) (t : Int) (v0 v1 v2 v3 : Value) : Prop :=
  w'.cell? ⟨rb, 0, none⟩ = some (.pointer (some ⟨b, 0, none⟩)) ∧ w'.cell? ⟨tb, 0, none⟩ = some (.int .i64 t) ∧
    w'.cell? ⟨cb, 0, none⟩ = some v0 ∧ w'.cell? ⟨cb, 1, none⟩ = some v1 ∧ w'.cell? ⟨cb, 2, none⟩ = some v2 ∧ w'.cell? ⟨cb, 3, none⟩ = some v3
theorem new1 (W : World) (o : List Value) (T : TypeId) (X : World) (hX : X = W.alloc (.cells o.toArray T)) : Blk X W.heap.size o T := hX ▸ Blk.new W o T
theorem new4 (W : World) (o1 o2 o3 o4 : List Value) (T1 T2 T3 T4 : TypeId) (X : World) (hX : X = (((W.alloc (.cells o1.toArray T1)).alloc (.cells o2.toArray T2)).alloc (.cells o3.toArray T3)).alloc (.cells o4.toArray T4)) :
    Blk X W.heap.size o1 T1 ∧ Blk X (W.heap.size + 1) o2 T2 ∧ Blk X (W.heap.size + 1 + 1) o3 T3 ∧ Blk X (W.heap.size + 1 + 1 + 1) o4 T4 ∧ Below W.heap.size W X := by
  subst hX
  refine ⟨(((Blk.new W o1 T1).alloc _).alloc _).alloc _, ?_, ?_, ?_, ?_⟩
  · have := ((Blk.new (W.alloc (.cells o1.toArray T1)) o2 T2).alloc (.cells o3.toArray T3)).alloc (.cells o4.toArray T4)
    simpa using this
  · have := (Blk.new ((W.alloc (.cells o1.toArray T1)).alloc (.cells o2.toArray T2)) o3 T3).alloc (.cells o4.toArray T4)
    simpa using this
  · have := Blk.new (((W.alloc (.cells o1.toArray T1)).alloc (.cells o2.toArray T2)).alloc (.cells o3.toArray T3)) o4 T4
    simpa using this
  · exact ((((Below.refl W.heap.size W).alloc (Nat.le_refl _) _).alloc (by simp) _).alloc (by simp; omega) _).alloc (by simp; omega) _
theorem old_call (w0 w W : World) (hb0 : Below w0.heap.size w0 w) (hb6 : Below w.heap.size w W) (b : Nat) (s : RS) (fp : List Nat) (hR : ReelAt w b s fp) (x0 x1 : ByteArray) (hs0 : x0.size ≤ 4294967000) (hs1 : x1.size ≤ 4294967000)
    (rb tb : Nat) (J1 : Blk W rb [.pointer (some ⟨b, 0, none⟩)] 31) (J2 : Blk W tb [.string x0, .string x1] 103) (hrb : w.heap.size ≤ rb) (htb : w.heap.size ≤ tb) (t k : Int) (ht : t = 0 ∨ t = 1) (hk : k = 1 - t)
    (v0 v1 v2 : Value) (n : Nat) (l : List (RS → RS × Int)) (hl : l = [fun s => cutTo s t n (if t = 0 then bsL x0 else bsL x1).length, fun s => clr s (1 - t) (if t = 0 then bsL x1 else bsL x0)]) :
    Calls Tryz.prog 57 #[.slice (some ⟨W.heap.size + 1 + 1 + 1, 0, none⟩) 2 2]
      ((((W.alloc (.cells #[.int .i64 t] 3)).alloc (.cells #[v0, v1, v2, .int .i64 n] 105)).alloc (.cells #[.int .i64 k] 3)).alloc
        (.cells #[.func (.func 63) #[] #[.pointer (some ⟨W.heap.size + 1, 0, none⟩), .pointer (some ⟨tb, 0, none⟩), .pointer (some ⟨W.heap.size, 0, none⟩), .pointer (some ⟨rb, 0, none⟩)],
          .func (.func 55) #[] #[.pointer (some ⟨tb, 0, none⟩), .pointer (some ⟨W.heap.size + 1 + 1, 0, none⟩), .pointer (some ⟨rb, 0, none⟩)]] 54))
      fun r w' => r = .returned (.int .i64 (firstE (errsOf s l))) ∧ RPost W b fp (stAt s l (doneN (errsOf s l))) w' ∧ Behind w' rb W.heap.size (W.heap.size + 1) b t v0 v1 v2 (.int .i64 n) := by
  obtain ⟨X, hX⟩ : ∃ X, ((((W.alloc (.cells #[.int .i64 t] 3)).alloc (.cells #[v0, v1, v2, .int .i64 n] 105)).alloc (.cells #[.int .i64 k] 3)).alloc
        (.cells #[.func (.func 63) #[] #[.pointer (some ⟨W.heap.size + 1, 0, none⟩), .pointer (some ⟨tb, 0, none⟩), .pointer (some ⟨W.heap.size, 0, none⟩), .pointer (some ⟨rb, 0, none⟩)],
          .func (.func 55) #[] #[.pointer (some ⟨tb, 0, none⟩), .pointer (some ⟨W.heap.size + 1 + 1, 0, none⟩), .pointer (some ⟨rb, 0, none⟩)]] 54)) = X := ⟨_, rfl⟩
  rw [hX]
  obtain ⟨a1, a2, a3, a4, aB⟩ := new4 W [.int .i64 t] [v0, v1, v2, .int .i64 n] [.int .i64 k] [_, _] 3 105 3 54 X hX.symm
  have j1 := J1.below aB
  have j2 := J2.below aB
  have hlt := hR.lt
  have hsz := hb6.size
  have hno : ∀ g, w.heap.size ≤ g → g ∉ fp := fun g hg q => by have := hlt g q; omega
  have hRX : ReelAt X b s fp := hR.chg (Chg.of_below (hb6.trans (aB.mono hsz)) (fun _ => False)) (fun _ _ q => q)
  refine (steps_old w0 X (hb0.trans ((hb6.trans (aB.mono hsz)).mono hb0.size)) b rb tb (W.heap.size + 1) W.heap.size (W.heap.size + 1 + 1) (W.heap.size + 1 + 1 + 1) 2 x0 x1 t ht n s fp hRX
    (hno _ hrb) (hno _ htb) (hno _ hsz) (hno _ (by omega)) (hno _ (by omega)) (hno _ (by omega)) hs0 hs1 (j1.cell 0) (j2.cell 0) (j2.cell 1) (a2.cell 3) (a1.cell 0) (by rw [← hk]; exact a3.cell 0) ?_ l hl).mono ?_
  · intro i g c hg
    match i, hg with
    | 0, hg => cases hg; exact a4.cell 0
    | 1, hg => cases hg; exact a4.cell 1
    | i + 2, hg => simp [oldFs] at hg
  · rintro r w' ⟨rfl, hp⟩
    exact ⟨rfl, RPost.below aB hp, hp.cell (j1.cell 0) (hno _ hrb), hp.cell (a1.cell 0) (hno _ hsz), hp.cell (a2.cell 0) (hno _ (by show _ ≤ W.heap.size + 1; omega)), hp.cell (a2.cell 1) (hno _ (by show _ ≤ W.heap.size + 1; omega)),
      hp.cell (a2.cell 2) (hno _ (by show _ ≤ W.heap.size + 1; omega)), hp.cell (a2.cell 3) (hno _ (by show _ ≤ W.heap.size + 1; omega))⟩
theorem new_call (w0 w W : World) (hG : Gl w0) (hb0 : Below w0.heap.size w0 w) (hb6 : Below w.heap.size w W) (b : Nat) (s : RS) (fp : List Nat) (hR : ReelAt w b s fp) (hf : ∀ k ∈ fp, w0.heap.size ≤ k) (x0 x1 : ByteArray)
    (rb tb : Nat) (J1 : Blk W rb [.pointer (some ⟨b, 0, none⟩)] 31) (J2 : Blk W tb [.string x0, .string x1] 103) (hrb : w.heap.size ≤ rb) (htb : w.heap.size ≤ tb) (v0 v1 v2 v3 : Value) :
    Calls Tryz.prog 57 #[.slice (some ⟨W.heap.size + 1 + 1 + 1 + 1, 0, none⟩) 4 4]
      (((((W.alloc (.cells #[.int .i64 0] 3)).alloc (.cells #[v0, v1, v2, v3] 105)).alloc (.cells #[.int .i64 0] 3)).alloc (.cells #[.int .i64 1] 3)).alloc
        (.cells #[.func (.func 55) #[] #[.pointer (some ⟨tb, 0, none⟩), .pointer (some ⟨W.heap.size + 1 + 1, 0, none⟩), .pointer (some ⟨rb, 0, none⟩)],
          .func (.func 55) #[] #[.pointer (some ⟨tb, 0, none⟩), .pointer (some ⟨W.heap.size + 1 + 1 + 1, 0, none⟩), .pointer (some ⟨rb, 0, none⟩)],
          .func (.func 58) #[] #[.pointer (some ⟨rb, 0, none⟩)], .func (.func 61) #[] #[.pointer (some ⟨rb, 0, none⟩)]] 54))
      fun r w' => r = .returned (.int .i64 (firstE (errsOf s (newSteps (bsL x0) (bsL x1))))) ∧ RPost W b fp (stAt s (newSteps (bsL x0) (bsL x1)) (doneN (errsOf s (newSteps (bsL x0) (bsL x1))))) w' ∧ Behind w' rb W.heap.size (W.heap.size + 1) b 0 v0 v1 v2 v3 := by
  obtain ⟨Y, hY⟩ : ∃ Y, ((((W.alloc (.cells #[.int .i64 0] 3)).alloc (.cells #[v0, v1, v2, v3] 105)).alloc (.cells #[.int .i64 0] 3)).alloc (.cells #[.int .i64 1] 3)) = Y := ⟨_, rfl⟩
  rw [hY]
  obtain ⟨a1, a2, a3, a4, aB⟩ := new4 W [.int .i64 0] [v0, v1, v2, v3] [.int .i64 0] [.int .i64 1] 3 105 3 3 Y hY.symm
  have hYs : Y.heap.size = W.heap.size + 1 + 1 + 1 + 1 := by rw [← hY]; simp
  obtain ⟨X, hX⟩ : ∃ X, (Y.alloc
        (.cells #[.func (.func 55) #[] #[.pointer (some ⟨tb, 0, none⟩), .pointer (some ⟨W.heap.size + 1 + 1, 0, none⟩), .pointer (some ⟨rb, 0, none⟩)],
          .func (.func 55) #[] #[.pointer (some ⟨tb, 0, none⟩), .pointer (some ⟨W.heap.size + 1 + 1 + 1, 0, none⟩), .pointer (some ⟨rb, 0, none⟩)],
          .func (.func 58) #[] #[.pointer (some ⟨rb, 0, none⟩)], .func (.func 61) #[] #[.pointer (some ⟨rb, 0, none⟩)]] 54)) = X := ⟨_, rfl⟩
  rw [hX]
  have aX : Below Y.heap.size Y X := by rw [← hX]; exact (Below.refl Y.heap.size Y).alloc (Nat.le_refl _) _
  have a5 := new1 Y [_, _, _, _] 54 X hX.symm
  rw [hYs] at a5
  have aBX : Below W.heap.size W X := aB.trans (aX.mono aB.size)
  have j1 := J1.below aBX
  have j2 := J2.below aBX
  have a1' := a1.below aX
  have a2' := a2.below aX
  have a3' := a3.below aX
  have a4' := a4.below aX
  have hlt := hR.lt
  have hsz := hb6.size
  have hno : ∀ g, w.heap.size ≤ g → g ∉ fp := fun g hg q => by have := hlt g q; omega
  have hRX : ReelAt X b s fp := hR.chg (Chg.of_below (hb6.trans (aBX.mono hsz)) (fun _ => False)) (fun _ _ q => q)
  refine (steps_new w0 X hG (hb0.trans ((hb6.trans (aBX.mono hsz)).mono hb0.size)) b rb tb (W.heap.size + 1 + 1) (W.heap.size + 1 + 1 + 1) (W.heap.size + 1 + 1 + 1 + 1) 4 x0 x1 s fp hRX hf
    (hno _ hrb) (hno _ htb) (hno _ (by omega)) (hno _ (by omega)) (hno _ (by omega)) (j1.cell 0) (j2.cell 0) (j2.cell 1) (a3'.cell 0) (a4'.cell 0) ?_).mono ?_
  · intro i g c hg
    match i, hg with
    | 0, hg => cases hg; exact a5.cell 0
    | 1, hg => cases hg; exact a5.cell 1
    | 2, hg => cases hg; exact a5.cell 2
    | 3, hg => cases hg; exact a5.cell 3
    | i + 4, hg => simp [newFs] at hg
  · rintro r w' ⟨rfl, hp⟩
    exact ⟨rfl, RPost.below aBX hp, hp.cell (j1.cell 0) (hno _ hrb), hp.cell (a1'.cell 0) (hno _ hsz), hp.cell (a2'.cell 0) (hno _ (by show _ ≤ W.heap.size + 1; omega)), hp.cell (a2'.cell 1) (hno _ (by show _ ≤ W.heap.size + 1; omega)),
      hp.cell (a2'.cell 2) (hno _ (by show _ ≤ W.heap.size + 1; omega)), hp.cell (a2'.cell 3) (hno _ (by show _ ≤ W.heap.size + 1; omega))⟩
end Go.Proofs.YtopajmbblemopaaGreatDoor
namespace Go.Proofs.YtopajmbblemopaaGreatDoor
set_option linter.unusedVariables false
set_option linter.unusedSimpArgs false
open Go.RowKit Go.Proofs.YtopajmbblemopaaGreatDoor.XPg Go.Proofs.YtopajmbblemopaaGreatDoorW.PrintWords Go.Proofs.YtopajmbblemopaaGreatDoorW.PrintLast
theorem cell_alloc {w : World} {p : Addr} {v : Value} (h : w.cell? p = some v) (o : Obj) : (w.alloc o).cell? p = some v := (Below.cell ((Below.refl w.heap.size w).alloc (Nat.le_refl _) o) (World.block_lt_of_cell? w _ h)).trans h
theorem OpenPost.drew {w w' : World} {b : Nat} {fp : List Nat} {s' : RS} {er : Int} {L : LS} {base : ByteArray} {recs : List ByteArray} {e : Ending} (h : OpenPost w b fp s' er L base recs e w') : OpenPost w b fp s' er L base recs e w'.drew := by
  obtain ⟨fp', a, c, f, q⟩ := h
  have hb : Below w'.heap.size w' w'.drew := below_drew (Below.refl _ _)
  refine ⟨fp', a.chg (Chg.of_below hb (fun _ => False)) (fun _ _ q => q), c.drew, f, ?_⟩
  rcases q with q | ⟨h1, lb, v, B, h2, h3, h4, h5, h6, h7⟩
  · exact .inl q
  · exact .inr ⟨h1, lb, v, B, h2, h3, h4, h5.drew, h6, Kd.R_drew h7⟩
set_option maxHeartbeats 1600000 in
theorem open_walk (w0 w : World) (hG0 : Hd (Gl w0)) (hb0 : Hd (Below w0.heap.size w0 w)) (b : Nat) (s : RS) (fp : List Nat) (hRe : Hd (ReelAt w b s fp)) (hfo : Hd (∀ k ∈ fp, w0.heap.size ≤ k)) (x0 x1 : ByteArray) (hs0 : Hd (x0.size ≤ 4294967000)) (hs1 : Hd (x1.size ≤ 4294967000))
    (e0 e1 : Int) (b0 b1 : ByteArray) (l0 l1 : List ByteArray) (n0 n1 : Nat) (he0 : 0 ≤ e0)
    (HS1 : Hd (∀ w1, Below w.heap.size w w1 → Calls Tryz.prog 53 #[.string x1] w1 fun e w' => ∃ A n c, e = .returned (.agg #[.int .i64 e1, .string b1, .slice A n c, .int .i64 n1]) ∧ Kd.R Kd.string 9 w' w1.heap.size (fun _ => True) (.slice A n c) l1 ∧ Below w1.heap.size w1 w'))
    (HR1 : Hd (∀ w1, Below w.heap.size w w1 → Calls Tryz.prog 52 #[.pointer (some ⟨b, 0, none⟩), .int .i64 1] w1 fun e w' => e = .returned (.tuple #[.string x1, .int .i64 0]) ∧ Below w1.heap.size w1 w'))
    (HS0 : Hd (∀ w1, Below w.heap.size w w1 → Calls Tryz.prog 53 #[.string x0] w1 fun e w' => ∃ A n c, e = .returned (.agg #[.int .i64 e0, .string b0, .slice A n c, .int .i64 n0]) ∧ Kd.R Kd.string 9 w' w1.heap.size (fun _ => True) (.slice A n c) l0 ∧ Below w1.heap.size w1 w'))
    (HR0 : Hd (∀ w1, Below w.heap.size w w1 → Calls Tryz.prog 52 #[.pointer (some ⟨b, 0, none⟩), .int .i64 0] w1 fun e w' => e = .returned (.tuple #[.string x0, .int .i64 0]) ∧ Below w1.heap.size w1 w'))
    (t ep : Int) (bs : ByteArray) (recs : List ByteArray) (rt : Nat)
    (hpick : Hd ((e0 < e1 ∧ t = 1 ∧ ep = e1 ∧ bs = b1 ∧ recs = l1 ∧ rt = n1) ∨ (¬ e0 < e1 ∧ t = 0 ∧ ep = e0 ∧ bs = b0 ∧ recs = l0 ∧ rt = n0)))
    (l : List (RS → RS × Int)) (hl : Hd (l = if ep = 0 then newSteps (bsL x0) (bsL x1) else [fun s => cutTo s t rt (if t = 0 then bsL x0 else bsL x1).length, fun s => clr s (1 - t) (if t = 0 then bsL x1 else bsL x0)]))
    (s' : RS) (er : Int) (hs' : Hd (s' = stAt s l (doneN (errsOf s l)))) (her : Hd (er = firstE (errsOf s l))) (L : LS) (hL : Hd (L = ⟨t, if ep = 0 then 1 else ep, (recs.length : Int), false⟩)) :
    Calls Tryz.prog 32 #[.pointer (some ⟨b, 0, none⟩)] w (OpenPost w b fp s' er L bs recs) := by
  have hB : ∀ o1 o2 o3, Below w.heap.size w (((w.alloc o1).alloc o2).alloc o3) := fun o1 o2 o3 => (((Below.refl w.heap.size w).alloc (Nat.le_refl _) _).alloc (by simp) _).alloc (by simp; omega) _
  have hA1 : ∀ o2 o3, Blk (((w.alloc (.cells #[.pointer (some ⟨b, 0, none⟩)] 31)).alloc o2).alloc o3) w.heap.size [.pointer (some ⟨b, 0, none⟩)] 31 := fun o2 o3 => ((Blk.new w [.pointer (some ⟨b, 0, none⟩)] _).alloc _).alloc _
  have hA2 : ∀ o1 o3, Blk (((w.alloc o1).alloc (.cells #[.string ⟨#[]⟩, .string ⟨#[]⟩] 103)).alloc o3) (w.heap.size + 1) [.string ⟨#[]⟩, .string ⟨#[]⟩] 103 := fun o1 o3 => by
    have := (Blk.new (w.alloc o1) [.string ⟨#[]⟩, .string ⟨#[]⟩] 103).alloc o3
    simpa using this
  have hA3 : ∀ o1 o2, Blk (((w.alloc o1).alloc o2).alloc (.cells #[.int .i64 0, .string ⟨#[]⟩, .slice none 0 0, .int .i64 0, .int .i64 0, .string ⟨#[]⟩, .slice none 0 0, .int .i64 0] 106)) (w.heap.size + 1 + 1) [.int .i64 0, .string ⟨#[]⟩, .slice none 0 0, .int .i64 0, .int .i64 0, .string ⟨#[]⟩, .slice none 0 0, .int .i64 0] 106 := fun o1 o2 => by
    have := Blk.new ((w.alloc o1).alloc o2) [.int .i64 0, .string ⟨#[]⟩, .slice none 0 0, .int .i64 0, .int .i64 0, .string ⟨#[]⟩, .slice none 0 0, .int .i64 0] 106
    simpa using this
  go_enter Tryz.func32, Tryz.ntmps32
  go_wp2
  have hb0 := hB (.cells #[.pointer (some ⟨b, 0, none⟩)] 31) (.cells #[.string ⟨#[]⟩, .string ⟨#[]⟩] 103) (.cells #[.int .i64 0, .string ⟨#[]⟩, .slice none 0 0, .int .i64 0, .int .i64 0, .string ⟨#[]⟩, .slice none 0 0, .int .i64 0] 106)
  have k1 := hd (hA1 (.cells #[.string ⟨#[]⟩, .string ⟨#[]⟩] 103) (.cells #[.int .i64 0, .string ⟨#[]⟩, .slice none 0 0, .int .i64 0, .int .i64 0, .string ⟨#[]⟩, .slice none 0 0, .int .i64 0] 106))
  have k2 := hd (hA2 (.cells #[.pointer (some ⟨b, 0, none⟩)] 31) (.cells #[.int .i64 0, .string ⟨#[]⟩, .slice none 0 0, .int .i64 0, .int .i64 0, .string ⟨#[]⟩, .slice none 0 0, .int .i64 0] 106))
  have k3 := hd (hA3 (.cells #[.pointer (some ⟨b, 0, none⟩)] 31) (.cells #[.string ⟨#[]⟩, .string ⟨#[]⟩] 103))
  have HB0 := hd hb0
  clear hB hA1 hA2 hA3 hb0
  generalize ((w.alloc (.cells #[.pointer (some ⟨b, 0, none⟩)] 31)).alloc (.cells #[.string ⟨#[]⟩, .string ⟨#[]⟩] 103)).alloc (.cells #[.int .i64 0, .string ⟨#[]⟩, .slice none 0 0, .int .i64 0, .int .i64 0, .string ⟨#[]⟩, .slice none 0 0, .int .i64 0] 106) = W at *
  have r1 := k1.out.cell 0
  refine wp_loop_rounds 3 ?_
  rw [rounds_succ]
  go_wp2_with (go_at_call 52; refine (HR0.out _ HB0.out).mono ?_; rintro e w1 ⟨rfl, hb⟩; have HB1 := hd (HB0.out.trans (hb.mono HB0.out.size)); have k1' := hd (k1.out.below hb); have k2' := hd (k2.out.below hb); have k3' := hd (k3.out.below hb); clear hb)
  go_region_with (go_at_call 53; refine (HS0.out _ (below_drew HB1.out)).mono ?_; rintro e w2 ⟨A, n, c, rfl, hk0, hb2⟩; have HK0 := hd hk0; clear hk0; have LT1 := hd (k3'.out.drew).lt; have k1a := hd ((k1'.out.drew).below hb2); have k2a := hd ((k2'.out.drew).below hb2); have k3a := hd ((k3'.out.drew).below hb2); have q20 := k2a.out.cell 0; have q2f := k2a.out.frozen 0; have q3 : ∀ j, w2.cell? ⟨w.heap.size + 1 + 1, j, none⟩ = _ := k3a.out.cell; have q30 := q3 0; have q31 := q3 1; have q32 := q3 2; have q33 := q3 3; have f30 := k3a.out.frozen 0; have f31 := k3a.out.frozen 1; have f32 := k3a.out.frozen 2; have f33 := k3a.out.frozen 3; clear q3)
  have HB2 := hd ((below_drew HB1.out).trans (hb2.mono HB1.out.size))
  obtain ⟨B1, B2, B3, C1⟩ := round_blks w2 w.heap.size (w.heap.size + 1) (w.heap.size + 1 + 1) 0 0 (.string x0) (.int .i64 e0) (.string b0) (.slice A n c) (.int .i64 n0) (by omega) (by omega) (by omega) _ _ _ _ _ _ k1a.out k2a.out k3a.out
  have HB3 := hd (HB2.out.trans (C1.below HB2.out.size (by rintro i (q | q) <;> omega)))
  have HC1 := hd C1
  have K1 := hd B1
  have K2 := hd B2
  have K3 := hd B3
  clear B1 B2 B3 C1 q20 q2f q30 q31 q32 q33 f30 f31 f32 f33 k1' k2' k3' k1a k2a k3a
  obtain ⟨W3, hW3⟩ : ∃ W3, roundW w2 (w.heap.size + 1) (w.heap.size + 1 + 1) 0 0 (.string x0) (.int .i64 e0) (.string b0) (.slice A n c) (.int .i64 n0) = W3 := ⟨_, rfl⟩
  rw [hW3] at HB3 HC1 K1 K2 K3
  simp only [roundW, Nat.zero_add, Nat.reduceAdd] at hW3
  rw [hW3]
  clear hW3
  have r1' := K1.out.cell 0
  simp only [List.set, Nat.zero_add] at K2 K3
  go_wp2
  rw [rounds_succ]
  go_wp2_with (go_at_call 52; refine (HR1.out _ HB3.out).mono ?_; rintro e w4 ⟨rfl, hb4⟩; have HB4 := hd (HB3.out.trans (hb4.mono HB3.out.size)); have l1 := hd (K1.out.below hb4); have l2 := hd (K2.out.below hb4); have l3 := hd (K3.out.below hb4); have HC4 := hd (Chg.of_below hb4 (fun _ => False)); clear hb4)
  go_region_with (go_at_call 53; refine (HS1.out _ (below_drew HB4.out)).mono ?_; rintro e w5 ⟨A2, n2, c2, rfl, hk5, hb5⟩; have HK5 := hd hk5; clear hk5; have LT4 := hd (l3.out.drew).lt; have HB45 := hd hb5; have l1a := hd ((l1.out.drew).below hb5); have l2a := hd ((l2.out.drew).below hb5); have l3a := hd ((l3.out.drew).below hb5); have q20 := l2a.out.cell 1; have q2f := l2a.out.frozen 1; have q3 : ∀ j, w5.cell? ⟨w.heap.size + 1 + 1, j, none⟩ = _ := l3a.out.cell; have q30 := q3 4; have q31 := q3 5; have q32 := q3 6; have q33 := q3 7; have f30 := l3a.out.frozen 4; have f31 := l3a.out.frozen 5; have f32 := l3a.out.frozen 6; have f33 := l3a.out.frozen 7; clear q3)
  have HB5 := hd ((below_drew HB4.out).trans (hb5.mono HB4.out.size))
  obtain ⟨B1, B2, B3, C1⟩ := round_blks w5 w.heap.size (w.heap.size + 1) (w.heap.size + 1 + 1) 1 4 (.string x1) (.int .i64 e1) (.string b1) (.slice A2 n2 c2) (.int .i64 n1) (by omega) (by omega) (by omega) _ _ _ _ _ _ l1a.out l2a.out l3a.out
  have HB6 := hd (HB5.out.trans (C1.below HB5.out.size (by rintro i (q | q) <;> omega)))
  have HC6 := hd C1
  have HB56 := hd hb5
  have J1 := hd B1
  have J2 := hd B2
  have J3 := hd B3
  clear B1 B2 B3 C1 q20 q2f q30 q31 q32 q33 f30 f31 f32 f33 l1 l2 l3 l1a l2a l3a hb5 r1'
  obtain ⟨W6, hW6⟩ : ∃ W6, roundW w5 (w.heap.size + 1) (w.heap.size + 1 + 1) 1 4 (.string x1) (.int .i64 e1) (.string b1) (.slice A2 n2 c2) (.int .i64 n1) = W6 := ⟨_, rfl⟩
  rw [hW6] at HB6 HC6 J1 J2 J3
  simp only [roundW, Nat.zero_add, Nat.reduceAdd] at hW6
  rw [hW6]
  clear hW6
  simp only [List.set, Nat.zero_add] at J2 J3
  have r1 := J1.out.cell 0
  -- the rows at W6
  have KR1 : ∃ B, w.heap.size ≤ B ∧ Kd.R Kd.string 9 W6 B (fun k => B ≤ k) (.slice A2 n2 c2) l1 := by
    refine ⟨_, Nat.le_of_lt (Nat.lt_of_le_of_lt (by omega) LT4.out), Kd.R_step (Kd.R_mono (Kd.R_bound HK5.out) (fun k hk => hk.2.1)) (fun k hk hk2 => HC6.out.block k hk2 ?_)⟩
    have hlt4 := LT4.out
    rintro (q | q) <;> omega
  have KR0 : ∃ B, w.heap.size ≤ B ∧ Kd.R Kd.string 9 W6 B (fun k => B ≤ k) (.slice A n c) l0 := by
    have hlt1 := LT1.out
    refine ⟨_, Nat.le_of_lt (Nat.lt_of_le_of_lt (by omega) hlt1), Kd.R_step (Kd.R_below (Kd.R_drew (Kd.R_step (Kd.R_step (Kd.R_mono (Kd.R_bound HK0.out) (fun k hk => hk.2.1)) (fun k hk hk2 => HC1.out.block k hk2 ?_)) (fun k hk hk2 => HC4.out.block k hk2 (fun q => q)))) HB45.out) (fun k hk hk2 => HC6.out.block k hk2 ?_)⟩
    · rintro (q | q) <;> omega
    · rintro (q | q) <;> omega
  have HK := hd (And.intro KR0 KR1)
  clear KR0 KR1 HK0 HK5 HC1 HC4 HC6 HB45 LT1 LT4 HS1 HR1 HS0 HR0
  have hmf : ∀ (fn : Fn) (first cap : Array Value) (w : World), (Instr.makeFunc fn first cap).run Tryz.prog w = .ok (.func fn first cap) w := fun _ _ _ _ => rfl
  have g3 : ∀ j, (W6.alloc (.cells #[.int .i64 0] 3)).cell? ⟨w.heap.size + 1 + 1, j, none⟩ = _ := (J3.out.alloc _).cell
  have h30 : (W6.alloc (.cells #[.int .i64 0] 3)).cell? ⟨w.heap.size + 1 + 1, 0, none⟩ = some (.int .i64 e0) := g3 0
  have h34 : (W6.alloc (.cells #[.int .i64 0] 3)).cell? ⟨w.heap.size + 1 + 1, 4, none⟩ = some (.int .i64 e1) := g3 4
  by_cases hlt : e0 < e1
  · have hz : e1 ≠ 0 := by omega
    obtain ⟨rfl, rfl, rfl, rfl, rfl⟩ : t = 1 ∧ ep = e1 ∧ bs = b1 ∧ recs = l1 ∧ rt = n1 := by
      rcases hpick.out with ⟨_, q⟩ | ⟨q, _⟩
      · exact q
      · omega
    obtain ⟨B, hB, hv⟩ := HK.out.2
    have HV := hd (And.intro hB hv)
    clear hB hv
    have hl' := hl.out
    rw [if_neg hz] at hl'
    have hLe := hL.out
    rw [if_neg hz] at hLe
    have hnn : n2 = recs.length := (Kd.R_reads' HV.out.2).1
    subst hnn
    have hlt0 := hRe.out.lt
    have g1 : ∀ j, (W6.alloc (.cells #[.int .i64 1] 3)).cell? ⟨w.heap.size + 1 + 1, j, none⟩ = _ := (J3.out.alloc _).cell
    have m0 : (W6.alloc (.cells #[.int .i64 1] 3)).cell? ⟨w.heap.size + 1 + 1, 4, none⟩ = some (.int .i64 ep) := g1 4
    have m1 : (W6.alloc (.cells #[.int .i64 1] 3)).cell? ⟨w.heap.size + 1 + 1, 4 + 1, none⟩ = some (.string bs) := g1 (4 + 1)
    have m2 : (W6.alloc (.cells #[.int .i64 1] 3)).cell? ⟨w.heap.size + 1 + 1, 4 + 2, none⟩ = some (.slice A2 recs.length c2) := g1 (4 + 2)
    have m3 : (W6.alloc (.cells #[.int .i64 1] 3)).cell? ⟨w.heap.size + 1 + 1, 4 + 3, none⟩ = some (.int .i64 rt) := g1 (4 + 3)
    simp only [Nat.reduceAdd] at m1 m2 m3
    clear g1 g3
    have hez : (ep == 0) = false := beq_eq_false_iff_ne.2 hz
    have HST := hd (old_call w0 w W6 hb0.out HB6.out b s fp hRe.out x0 x1 hs0.out hs1.out w.heap.size (w.heap.size + 1) J1.out J2.out (Nat.le_refl _) (by omega) 1 0 (by omega) (by omega) (.int .i64 ep) (.string bs) (.slice A2 recs.length c2) rt l hl')
    rw [← hs'.out, ← her.out] at HST
    have HFAIL : Hd (∀ w7, RPost W6 b fp s' w7 → er ≠ 0 → OpenPost w b fp s' er L bs recs (.returned (.tuple #[.pointer none, .string ⟨#[]⟩, .slice none 0 0, .int .i64 er])) w7) := hd fun w7 hp he => open_fail (RPost.below HB6.out hp) he
    have HDONE : Hd (∀ w7, RPost W6 b fp s' w7 → er = 0 → OpenPost w b fp s' er L bs recs (.returned (.tuple #[.pointer (some ⟨w7.heap.size, 0, none⟩), .string bs, .slice A2 recs.length c2, .int .i64 0])) (w7.alloc (.cells #[.pointer (some ⟨b, 0, none⟩), .int .i64 1, .int .i64 ep, .int .i64 recs.length, .bool false] 117))) := hd fun w7 hp he => by
      rw [he]
      have := open_done (L := L) (base := bs) hlt0 HB6.out hp HV.out.1 HV.out.2
      rw [hLe] at this ⊢
      exact this
    clear HV hLe hl' hpick hl hL hs' her J1 J2 J3 HK HB6 hz hlt0 hs0 hs1 hRe hfo hb0 hG0
    by_cases hr : er = 0
    · have hr2 : (er != 0) = false := by simp [hr]
      go_wp2
      rw [rounds_succ]
      go_wp2_with (first | (go_at_call 54; refine (mkclr_walk _ _ _ _).mono ?_; rintro e w' ⟨rfl, rfl⟩) | (go_at_call 57; refine HST.out.mono ?_; rintro e w7 ⟨rfl, hp, q1, q2, q3, q4, q5, q6⟩; have HP := hd hp; clear hp; have q7 := cell_alloc q4 (.cells #[.pointer (some ⟨b, 0, none⟩), .int .i64 1, .int .i64 ep, .int .i64 recs.length, .bool false] 117); have q8 := cell_alloc q5 (.cells #[.pointer (some ⟨b, 0, none⟩), .int .i64 1, .int .i64 ep, .int .i64 recs.length, .bool false] 117)))
      go_region
      all_goals
        go_wp2_with (fail)
        refine bodyPost_ret (res4 rfl _ _ _) rfl ?_
        exact (HDONE.out _ HP.out hr).drew
    · have hr2 : (er != 0) = true := by simpa using hr
      go_wp2
      rw [rounds_succ]
      go_wp2_with (first | (go_at_call 54; refine (mkclr_walk _ _ _ _).mono ?_; rintro e w' ⟨rfl, rfl⟩) | (go_at_call 57; refine HST.out.mono ?_; rintro e w7 ⟨rfl, hp, q1, q2, q3, q4, q5, q6⟩; have HP := hd hp; clear hp))
      refine bodyPost_ret (res4 rfl _ _ _) rfl ?_
      exact HFAIL.out _ HP.out hr
  · by_cases hz0 : e0 = 0
    · subst hz0
      obtain ⟨rfl, rfl, rfl, rfl, rfl⟩ : t = 0 ∧ ep = 0 ∧ bs = b0 ∧ recs = l0 ∧ rt = n0 := by
        rcases hpick.out with ⟨q, _⟩ | ⟨_, q⟩
        · omega
        · exact q
      obtain ⟨B, hB, hv⟩ := HK.out.1
      have HV := hd (And.intro hB hv)
      clear hB hv
      have hl' := hl.out
      rw [if_pos rfl] at hl'
      have hLe := hL.out
      rw [if_pos rfl] at hLe
      have hnn : n = recs.length := (Kd.R_reads' HV.out.2).1
      subst hnn
      have hlt0 := hRe.out.lt
      have m1 : (W6.alloc (.cells #[.int .i64 0] 3)).cell? ⟨w.heap.size + 1 + 1, 1, none⟩ = some (.string bs) := g3 1
      have m2 : (W6.alloc (.cells #[.int .i64 0] 3)).cell? ⟨w.heap.size + 1 + 1, 2, none⟩ = some (.slice A recs.length c) := g3 2
      have m3 : (W6.alloc (.cells #[.int .i64 0] 3)).cell? ⟨w.heap.size + 1 + 1, 3, none⟩ = some (.int .i64 rt) := g3 3
      clear g3
      have HST := hd (new_call w0 w W6 hG0.out hb0.out HB6.out b s fp hRe.out hfo.out x0 x1 w.heap.size (w.heap.size + 1) J1.out J2.out (Nat.le_refl _) (by omega) (.int .i64 1) (.string bs) (.slice A recs.length c) (.int .i64 rt))
      rw [← hl', ← hs'.out, ← her.out] at HST
      have HFAIL : Hd (∀ w7, RPost W6 b fp s' w7 → er ≠ 0 → OpenPost w b fp s' er L bs recs (.returned (.tuple #[.pointer none, .string ⟨#[]⟩, .slice none 0 0, .int .i64 er])) w7) := hd fun w7 hp he => open_fail (RPost.below HB6.out hp) he
      have HDONE : Hd (∀ w7, RPost W6 b fp s' w7 → er = 0 → OpenPost w b fp s' er L bs recs (.returned (.tuple #[.pointer (some ⟨w7.heap.size, 0, none⟩), .string bs, .slice A recs.length c, .int .i64 0])) (w7.alloc (.cells #[.pointer (some ⟨b, 0, none⟩), .int .i64 0, .int .i64 1, .int .i64 recs.length, .bool false] 117))) := hd fun w7 hp he => by
        rw [he]
        have := open_done (L := L) (base := bs) hlt0 HB6.out hp HV.out.1 HV.out.2
        rw [hLe] at this ⊢
        exact this
      clear HV hLe hl' hpick hl hL hs' her J1 J2 J3 HK HB6 hlt0 hs0 hs1 hRe hfo hb0 hG0
      by_cases hr : er = 0
      · have hr2 : (er != 0) = false := by simp [hr]
        go_wp2
        rw [rounds_succ]
        go_wp2_with (first | (go_at_call 54; refine (mkclr_walk _ _ _ _).mono ?_; rintro e w' ⟨rfl, rfl⟩) | (go_at_call 57; refine HST.out.mono ?_; rintro e w7 ⟨rfl, hp, q1, q2, q3, q4, q5, q6⟩; have HP := hd hp; clear hp; have q7 := cell_alloc q4 (.cells #[.pointer (some ⟨b, 0, none⟩), .int .i64 0, .int .i64 1, .int .i64 recs.length, .bool false] 117); have q8 := cell_alloc q5 (.cells #[.pointer (some ⟨b, 0, none⟩), .int .i64 0, .int .i64 1, .int .i64 recs.length, .bool false] 117)))
        go_region
        all_goals
          go_wp2_with (fail)
          refine bodyPost_ret (res4 rfl _ _ _) rfl ?_
          exact (HDONE.out _ HP.out hr).drew
      · have hr2 : (er != 0) = true := by simpa using hr
        go_wp2
        rw [rounds_succ]
        go_wp2_with (first | (go_at_call 54; refine (mkclr_walk _ _ _ _).mono ?_; rintro e w' ⟨rfl, rfl⟩) | (go_at_call 57; refine HST.out.mono ?_; rintro e w7 ⟨rfl, hp, q1, q2, q3, q4, q5, q6⟩; have HP := hd hp; clear hp))
        refine bodyPost_ret (res4 rfl _ _ _) rfl ?_
        exact HFAIL.out _ HP.out hr
    · have hz : e0 ≠ 0 := hz0
      obtain ⟨rfl, rfl, rfl, rfl, rfl⟩ : t = 0 ∧ ep = e0 ∧ bs = b0 ∧ recs = l0 ∧ rt = n0 := by
        rcases hpick.out with ⟨q, _⟩ | ⟨_, q⟩
        · omega
        · exact q
      obtain ⟨B, hB, hv⟩ := HK.out.1
      have HV := hd (And.intro hB hv)
      clear hB hv
      have hl' := hl.out
      rw [if_neg hz] at hl'
      have hLe := hL.out
      rw [if_neg hz] at hLe
      have hnn : n = recs.length := (Kd.R_reads' HV.out.2).1
      subst hnn
      have hlt0 := hRe.out.lt
      have g1 : ∀ j, (W6.alloc (.cells #[.int .i64 0] 3)).cell? ⟨w.heap.size + 1 + 1, j, none⟩ = _ := (J3.out.alloc _).cell
      have m0 : (W6.alloc (.cells #[.int .i64 0] 3)).cell? ⟨w.heap.size + 1 + 1, 0, none⟩ = some (.int .i64 ep) := g1 0
      have m1 : (W6.alloc (.cells #[.int .i64 0] 3)).cell? ⟨w.heap.size + 1 + 1, 1, none⟩ = some (.string bs) := g1 1
      have m2 : (W6.alloc (.cells #[.int .i64 0] 3)).cell? ⟨w.heap.size + 1 + 1, 2, none⟩ = some (.slice A recs.length c) := g1 2
      have m3 : (W6.alloc (.cells #[.int .i64 0] 3)).cell? ⟨w.heap.size + 1 + 1, 3, none⟩ = some (.int .i64 rt) := g1 3
      clear g1 g3
      have hez : (ep == 0) = false := beq_eq_false_iff_ne.2 hz
      have HST := hd (old_call w0 w W6 hb0.out HB6.out b s fp hRe.out x0 x1 hs0.out hs1.out w.heap.size (w.heap.size + 1) J1.out J2.out (Nat.le_refl _) (by omega) 0 1 (by omega) (by omega) (.int .i64 ep) (.string bs) (.slice A recs.length c) rt l hl')
      rw [← hs'.out, ← her.out] at HST
      have HFAIL : Hd (∀ w7, RPost W6 b fp s' w7 → er ≠ 0 → OpenPost w b fp s' er L bs recs (.returned (.tuple #[.pointer none, .string ⟨#[]⟩, .slice none 0 0, .int .i64 er])) w7) := hd fun w7 hp he => open_fail (RPost.below HB6.out hp) he
      have HDONE : Hd (∀ w7, RPost W6 b fp s' w7 → er = 0 → OpenPost w b fp s' er L bs recs (.returned (.tuple #[.pointer (some ⟨w7.heap.size, 0, none⟩), .string bs, .slice A recs.length c, .int .i64 0])) (w7.alloc (.cells #[.pointer (some ⟨b, 0, none⟩), .int .i64 0, .int .i64 ep, .int .i64 recs.length, .bool false] 117))) := hd fun w7 hp he => by
        rw [he]
        have := open_done (L := L) (base := bs) hlt0 HB6.out hp HV.out.1 HV.out.2
        rw [hLe] at this ⊢
        exact this
      clear HV hLe hl' hpick hl hL hs' her J1 J2 J3 HK HB6 hz hlt0 hs0 hs1 hRe hfo hb0 hG0
      by_cases hr : er = 0
      · have hr2 : (er != 0) = false := by simp [hr]
        go_wp2
        rw [rounds_succ]
        go_wp2_with (first | (go_at_call 54; refine (mkclr_walk _ _ _ _).mono ?_; rintro e w' ⟨rfl, rfl⟩) | (go_at_call 57; refine HST.out.mono ?_; rintro e w7 ⟨rfl, hp, q1, q2, q3, q4, q5, q6⟩; have HP := hd hp; clear hp; have q7 := cell_alloc q4 (.cells #[.pointer (some ⟨b, 0, none⟩), .int .i64 0, .int .i64 ep, .int .i64 recs.length, .bool false] 117); have q8 := cell_alloc q5 (.cells #[.pointer (some ⟨b, 0, none⟩), .int .i64 0, .int .i64 ep, .int .i64 recs.length, .bool false] 117)))
        go_region
        all_goals
          go_wp2_with (fail)
          refine bodyPost_ret (res4 rfl _ _ _) rfl ?_
          exact (HDONE.out _ HP.out hr).drew
      · have hr2 : (er != 0) = true := by simpa using hr
        go_wp2
        rw [rounds_succ]
        go_wp2_with (first | (go_at_call 54; refine (mkclr_walk _ _ _ _).mono ?_; rintro e w' ⟨rfl, rfl⟩) | (go_at_call 57; refine HST.out.mono ?_; rintro e w7 ⟨rfl, hp, q1, q2, q3, q4, q5, q6⟩; have HP := hd hp; clear hp))
        refine bodyPost_ret (res4 rfl _ _ _) rfl ?_
        exact HFAIL.out _ HP.out hr
end Go.Proofs.YtopajmbblemopaaGreatDoor
namespace Go.Proofs.YtopajmbblemopaaGreatDoor
set_option linter.unusedVariables false
set_option linter.unusedSimpArgs false
open Go.RowKit Go.Proofs.YtopajmbblemopaaGreatDoor.XPg Go.Proofs.YtopajmbblemopaaGreatDoorW.PrintWords Go.Proofs.YtopajmbblemopaaGreatDoorW.PrintLast
theorem tape_le {s : RS} (h : s.Ok) (t : Int) : (tapeOf s t).length ≤ 4194304 := by
  have h1 := h.used
  have h2 := h.room1
  unfold tapeOf RS.safe RS.rest
  unfold RS.used at h1
  split <;> · rw [List.length_append]; omega
theorem open_any (w0 w : World) (hG : Gl w0) (hb0 : Below w0.heap.size w0 w) (b : Nat) (s : RS) (fp : List Nat) (hR : ReelAt w b s fp) (hf : ∀ k ∈ fp, w0.heap.size ≤ k) :
    Calls Tryz.prog 32 #[.pointer (some ⟨b, 0, none⟩)] w
      (OpenPost w b fp (openM s).1 (openM s).2 (openOf (tapeOf s 0) (tapeOf s 1)) (str (pickC (tapeOf s 0) (tapeOf s 1)).2.1) ((pickC (tapeOf s 0) (tapeOf s 1)).2.2.1.map str)) := by
  by_cases hd0 : s.dead = true
  · refine (open_dead b s fp w hR hd0).mono ?_
    rintro e w' ⟨rfl, hb⟩
    have hm : openM s = (s, 30) := by unfold openM; rw [if_pos hd0]
    rw [hm]
    exact ⟨fp, hR.chg (Chg.of_below hb (fun _ => False)) (fun _ _ q => q), Chg.of_below hb _, fun k hk => .inl hk, .inl ⟨by show (30 : Int) ≠ 0; decide, rfl⟩⟩
  · have hm : openM s = (stAt s (openSteps (tapeOf s 0) (tapeOf s 1)) (doneN (errsOf s (openSteps (tapeOf s 0) (tapeOf s 1)))), firstE (errsOf s (openSteps (tapeOf s 0) (tapeOf s 1)))) := by unfold openM; rw [if_neg hd0]
    have hread : ∀ t : Int, t = 0 ∨ t = 1 → s.read t = (tapeOf s t, 0) := by
      intro t ht
      unfold RS.read tapeOf
      rw [if_neg (by omega), if_neg hd0]
    have l0 := tape_le hR.ok 0
    have l1 := tape_le hR.ok 1
    have hG' : ∀ w1, Below w.heap.size w w1 → Gl w1 := fun w1 hb => gl_below hG (hb0.trans (hb.mono hb0.size))
    have HR : ∀ t : Int, t = 0 ∨ t = 1 → ∀ w1, Below w.heap.size w w1 → Calls Tryz.prog 52 #[.pointer (some ⟨b, 0, none⟩), .int .i64 t] w1 fun e w' => e = .returned (.tuple #[.string (str (tapeOf s t)), .int .i64 0]) ∧ Below w1.heap.size w1 w' := by
      intro t ht w1 hb
      refine (read_any b t s fp w1 (hR.chg (Chg.of_below hb (fun _ => False)) (fun _ _ q => q))).mono ?_
      rintro e w' ⟨rfl, n, rfl⟩
      rw [hread t ht]
      exact ⟨rfl, ⟨rfl, rfl, rfl, Nat.le_refl _, fun _ _ => rfl⟩⟩
    have HS : ∀ x : Txt, x.length ≤ 4194304 → ∀ w1, Below w.heap.size w w1 → Calls Tryz.prog 53 #[.string (str x)] w1 fun e w' => ∃ A n c, e = .returned (.agg #[.int .i64 (scanL x).1, .string (str (scanL x).2.1), .slice A n c, .int .i64 ((scanL x).2.2.2 : Nat)]) ∧ Kd.R Kd.string 9 w' w1.heap.size (fun _ => True) (.slice A n c) ((scanL x).2.2.1.map str) ∧ Below w1.heap.size w1 w' := by
      intro x hx w1 hb
      refine (scan_call (str x) w1 (hG' w1 hb) (by rw [str_size]; omega)).mono ?_
      rintro e w' ⟨v, rfl, hk, hb1⟩
      rw [bs_of] at hk ⊢
      obtain ⟨A, c, rfl⟩ := Kd.R_slice hk
      exact ⟨A, _, c, rfl, hk, hb1⟩
    rw [hm]
    refine open_walk w0 w (hd hG) (hd hb0) b s fp (hd hR) (hd hf) (str (tapeOf s 0)) (str (tapeOf s 1)) (hd (by rw [str_size]; omega)) (hd (by rw [str_size]; omega))
      (scanL (tapeOf s 0)).1 (scanL (tapeOf s 1)).1 (str (scanL (tapeOf s 0)).2.1) (str (scanL (tapeOf s 1)).2.1) ((scanL (tapeOf s 0)).2.2.1.map str) ((scanL (tapeOf s 1)).2.2.1.map str) (scanL (tapeOf s 0)).2.2.2 (scanL (tapeOf s 1)).2.2.2 (scanL_facts _).1
      (hd (HS _ l1)) (hd (HR 1 (.inr rfl))) (hd (HS _ l0)) (hd (HR 0 (.inl rfl))) (pickT (tapeOf s 0) (tapeOf s 1)) (pickC (tapeOf s 0) (tapeOf s 1)).1 _ _ (pickC (tapeOf s 0) (tapeOf s 1)).2.2.2 (hd ?_)
      (openSteps (tapeOf s 0) (tapeOf s 1)) (hd ?_) _ _ (hd rfl) (hd rfl) _ (hd ?_)
    · unfold pickT pickC
      by_cases hlt : (scanL (tapeOf s 0)).1 < (scanL (tapeOf s 1)).1
      · simp only [if_pos hlt]
        exact .inl ⟨hlt, by simp⟩
      · simp only [if_neg hlt]
        exact .inr ⟨hlt, by simp⟩
    · unfold openSteps newSteps oldSteps
      simp only [bs_of]
    · unfold openOf
      rw [List.length_map]
end Go.Proofs.YtopajmbblemopaaGreatDoor
namespace Go.Proofs.YtopajmbblemopaaGreatDoor
set_option linter.unusedVariables false
set_option linter.unusedSimpArgs false
open Go.RowKit Go.Lib
def recPages : Nat → List Txt → Txt
  | _, [] => []
  | i, q :: l => laidL kRec (i : Int) q ++ recPages (i + 1) l
/-- A tape: a base, and records behind it. -/
def led (e : Int) (b : Txt) (recs : List Txt) : Txt := laidL kBase e b ++ recPages 1 recs
theorem recPages_append : ∀ (l : List Txt) (q : Txt) (i : Nat), recPages i (l ++ [q]) = recPages i l ++ laidL kRec ((i + l.length : Nat) : Int) q
  | [], q, i => by simp [recPages]
  | x :: l, q, i => by
    rw [List.cons_append, recPages, recPages, recPages_append l q (i + 1), List.append_assoc, List.length_cons, show i + 1 + l.length = i + (l.length + 1) by omega]
theorem led_append (e : Int) (b : Txt) (recs : List Txt) (q : Txt) : led e b (recs ++ [q]) = led e b recs ++ laidL kRec ((recs.length : Int) + 1) q := by
  unfold led
  rw [recPages_append, List.append_assoc, show ((1 + recs.length : Nat) : Int) = (recs.length : Int) + 1 by omega]
/-- A page is short: the load, and at most 140 bytes. -/
theorem laid_len (k : Txt) (n : Int) (q : Txt) (hk : k.length ≤ 4) (hn : inI64 n) (hq : q.length ≤ 524288) : (laidL k n q).length ≤ q.length + 140 ∧ 9 ≤ (laidL k n q).length := by
  have i1 := itoa_len hn
  have i2 : ∀ m : Nat, m ≤ 1048576 → (itoa (m : Int)).length ≤ 20 := fun m hm => itoa_len (by unfold inI64; omega)
  have l1 := strand_length k
  have l2 := strand_length (itoa n)
  have l3 := strand_length q
  have j1 := i2 k.length (by omega)
  have j2 := i2 (itoa n).length (by omega)
  have j3 := i2 q.length (by omega)
  have lt : (tieL [k, itoa n, q]).length = (strandL k).length + ((strandL (itoa n)).length + (strandL q).length) := by simp [tieL]
  have l4 := strand_length (sealL (tieL [k, itoa n, q]))
  rw [seal_length] at l4
  have j4 := i2 ((tieL [k, itoa n, q]).length + 8) (by omega)
  unfold laidL
  omega
theorem torn_none (k : Txt) (n : Int) (q : Txt) (hk : k.length ≤ 4) (hn : inI64 n) (hq : q.length ≤ 524288) (m : Nat) (hm : m < (laidL k n q).length) : readL ((laidL k n q).take m) = none := by
  cases hr : readL ((laidL k n q).take m) with
  | none => rfl
  | some p =>
    exfalso
    obtain ⟨⟨k', n', t'⟩, rest⟩ := p
    obtain ⟨h1, h2, h3⟩ := read_some hr
    have hl := (laid_len k n q hk hn hq).1
    have hw : (laidL k n q).take m ++ (laidL k n q).drop m = laidL k n q := List.take_append_drop _ _
    rw [h1, List.append_assoc] at hw
    have hlen := congrArg List.length hw
    rw [List.length_append] at hlen
    unfold laidL at hw hlen hl
    have f1 := first_strand (sealL (tieL [k', itoa n', t'])) (rest ++ (strandL (sealL (tieL [k, itoa n, q]))).drop m) (by unfold maxKnot; omega)
    have f2 := first_strand (sealL (tieL [k, itoa n, q])) [] (by unfold maxKnot; omega)
    rw [hw] at f1
    rw [List.append_nil, f1] at f2
    injection f2 with f2
    have f3 := (Prod.mk.inj f2).2
    have f4 := congrArg List.length (List.append_eq_nil_iff.1 f3).2
    unfold laidL at hm
    rw [List.length_drop, List.length_nil] at f4
    omega
/-- Where the reading of records stops. -/
def Stop (cnt : Nat) (j : Txt) : Prop := ∀ k n t r, readL j = some ((k, n, t), r) → ¬ (k = kRec ∧ n = (cnt : Int) + 1)
theorem stop_none {cnt : Nat} {j : Txt} (h : readL j = none) : Stop cnt j := fun k n t r q => by rw [h] at q; cases q
theorem read_nil' : readL [] = none := by
  unfold readL
  cases h : firstL [] with
  | none => rfl
  | some p =>
    obtain ⟨x, r⟩ := p
    have := congrArg List.length (first_some h).1
    rw [List.length_append, strand_length] at this
    simp at this
    exfalso
    omega
theorem scan_recs : ∀ (rs : List Txt) (f N : Nat) (j : Txt) (e : Int) (b : Txt) (l : List Txt), 0 < e → (recPages (l.length + 1) rs ++ j).length < f → (recPages (l.length + 1) rs ++ j).length ≤ N → (∀ q ∈ rs, q.length ≤ 524288) → l.length + rs.length ≤ 1000000 →
    Stop (l.length + rs.length) j → scanGo f N (recPages (l.length + 1) rs ++ j) e b l (N - (recPages (l.length + 1) rs ++ j).length) = (e, b, l ++ rs, N - j.length)
  | [], f, N, j, e, b, l, he, hf, hN, hq, hl, hs => by
    rw [recPages, List.nil_append] at *
    rw [List.append_nil]
    cases f with
    | zero => omega
    | succ f =>
      rw [scanGo]
      cases hr : readL j with
      | none => rfl
      | some p =>
        obtain ⟨⟨k, n, t⟩, s'⟩ := p
        have := hs k n t s' hr
        dsimp only
        rw [if_neg (fun h => by have := h.1; omega), if_neg (fun q => this ⟨q.2.1, by simpa using q.2.2⟩)]
  | q :: rs, f, N, j, e, b, l, he, hf, hN, hq, hl, hs => by
    rw [recPages, List.append_assoc] at *
    have hq0 := hq q (by simp)
    simp only [List.length_cons] at hl hs
    have hin : inI64 ((l.length + 1 : Nat) : Int) := by unfold inI64; omega
    have hpl := (laid_len kRec ((l.length + 1 : Nat) : Int) q (by decide) hin hq0).2
    cases f with
    | zero => omega
    | succ f =>
      rw [scanGo, read_laid _ (by decide) hin hq0]
      rw [List.length_append] at hf hN
      dsimp only
      rw [if_neg (fun h => by have := h.1; omega), if_pos ⟨he, rfl, by omega⟩]
      have ih := scan_recs rs f N j e b (l ++ [q]) he
      rw [show (l ++ [q]).length = l.length + 1 by simp] at ih
      rw [ih (by omega) (by omega) (fun x hx => hq x (by simp [hx])) (by omega) (by rw [show l.length + 1 + rs.length = l.length + (rs.length + 1) by omega]; exact hs), List.append_assoc]
      rfl
/-- What a tape tells. -/
theorem scan_led (e : Int) (b : Txt) (rs : List Txt) (j : Txt) (he : 1 ≤ e) (he1 : e ≤ topEpoch) (hb : b.length ≤ 524288) (hq : ∀ q ∈ rs, q.length ≤ 524288) (hl : rs.length ≤ 1000000) (hs : Stop rs.length j) :
    scanL (led e b rs ++ j) = (e, b, rs, (led e b rs).length) := by
  have hin : inI64 e := by unfold inI64; unfold topEpoch at he1; omega
  have hpl := (laid_len kBase e b (by decide) hin hb).2
  unfold scanL
  rw [scanGo, show led e b rs ++ j = laidL kBase e b ++ (recPages 1 rs ++ j) by unfold led; rw [List.append_assoc], read_laid _ (by decide) hin hb]
  dsimp only
  rw [if_pos ⟨rfl, rfl, he, he1⟩]
  have h := scan_recs rs (laidL kBase e b ++ (recPages 1 rs ++ j)).length (laidL kBase e b ++ (recPages 1 rs ++ j)).length j e b [] (by omega)
  rw [show ([] : List Txt).length = 0 from rfl, Nat.zero_add, Nat.zero_add, List.nil_append] at h
  have ll : (laidL kBase e b ++ (recPages 1 rs ++ j)).length = (laidL kBase e b).length + (recPages 1 rs ++ j).length := List.length_append
  rw [h (by omega) (by omega) hq hl hs]
  unfold led
  have l2 : (laidL kBase e b ++ recPages 1 rs).length = (laidL kBase e b).length + (recPages 1 rs).length := List.length_append
  have l3 : (recPages 1 rs ++ j).length = (recPages 1 rs).length + j.length := List.length_append
  congr 3
  omega
theorem scan_none {j : Txt} (h : readL j = none) : scanL j = (0, [], [], 0) := by
  unfold scanL
  rw [scanGo, h]
theorem kept_zero (l : Txt) (k : Int) : ∃ m, RS.kept l k 0 = l.take m := by
  unfold RS.kept
  dsimp only
  split
  · exact ⟨0, by simp⟩
  · rename_i h
    refine ⟨RS.keepn l k, ?_⟩
    rw [show ∀ x : UInt8, x ^^^ 0 = x from fun x => by simp]
    apply List.ext_getElem?
    intro i
    rw [List.getElem?_set]
    split
    · rename_i hi
      subst hi
      have hlt : (l.take (RS.keepn l k)).length - 1 < (l.take (RS.keepn l k)).length := by omega
      rw [if_pos hlt, List.getD_eq_getElem?_getD, List.getElem?_eq_getElem hlt]
      rfl
    · rfl
theorem kept_nil (k : Int) (t : UInt8) : RS.kept [] k t = [] := by simp [RS.kept]
end Go.Proofs.YtopajmbblemopaaGreatDoor
namespace Go.Proofs.YtopajmbblemopaaGreatDoor
set_option linter.unusedVariables false
set_option linter.unusedSimpArgs false
open Go.RowKit Go.Lib
/-- Tape t is so now; the rest is as it was. -/
structure Upd (s : RS) (t : Int) (a r : Txt) (s' : RS) : Prop where
  ok : s'.Ok
  dead : s'.dead = false
  safe : s'.safe t = a
  rest : s'.rest t = r
  safe' : s'.safe (1 - t) = s.safe (1 - t)
  rest' : s'.rest (1 - t) = s.rest (1 - t)
  room : s'.room = s.room
  left : s.left = -1 → s'.left = -1
theorem used_eq (s : RS) (t : Int) (ht : t = 0 ∨ t = 1) : s.used = (s.safe t).length + (s.rest t).length + ((s.safe (1 - t)).length + (s.rest (1 - t)).length) := by
  rcases ht with rfl | rfl <;> simp [RS.used, RS.safe, RS.rest]
  omega
theorem put_upd (s s1 : RS) (t : Int) (ht : t = 0 ∨ t = 1) (h1 : s1 = s.start.1) (hd : s1.dead = false) (a r : Txt) (hO : (s1.tick.put t a r).Ok) (hl : s.left = -1 → s1.left = -1) : Upd s t a r (s1.tick.put t a r) := by
  obtain ⟨z0, z1, z2, z3, z4, _⟩ := s.start_tapes
  rw [← h1] at z0 z1 z2 z3 z4
  rcases ht with rfl | rfl
  · exact ⟨hO, hd, rfl, rfl, z2, z3, z4, hl⟩
  · exact ⟨hO, hd, rfl, rfl, z0, z1, z4, hl⟩
theorem op_cases (s : RS) (t : Int) (f : RS → RS × Int) (ht : t = 0 ∨ t = 1) (hd : s.dead = false) (hO : s.Ok) :
    (s.left = 0 ∧ s.op t f = ({ s with dead := true }, 30)) ∨ (s.op t f = f s.start.1 ∧ s.start.1.dead = false ∧ s.start.1.Ok ∧ (s.left = -1 → s.start.1.left = -1) ∧ s.start.1.free = s.free) := by
  have hb : s.begin_ t = s.start := if_neg (by omega)
  unfold RS.op
  rw [hb]
  have hOk := hO.start
  obtain ⟨z0, z1, z2, z3, z4, _⟩ := s.start_tapes
  have hfree : s.start.1.free = s.free := by unfold RS.free; rw [z0, z1, z2, z3, z4]
  by_cases hl : s.left = 0
  · left
    have : s.start = ({ s with dead := true }, 30) := by unfold RS.start; rw [if_pos (.inr hl)]
    rw [this]
    exact ⟨hl, rfl⟩
  · right
    have hs : s.start = (s.start.1, 0) ∧ s.start.1.dead = false ∧ (s.left = -1 → s.start.1.left = -1) := by
      unfold RS.start
      rw [if_neg (by rw [hd]; simp [hl])]
      split
      · exact ⟨rfl, hd, fun q => by omega⟩
      · exact ⟨rfl, hd, fun q => q⟩
    have h2 : s.start.2 = 0 := congrArg Prod.snd hs.1
    rw [if_neg (by rw [h2]; decide)]
    exact ⟨rfl, hs.2.1, hOk, hs.2.2, hfree⟩
theorem write_cases (s : RS) (t : Int) (q : Txt) (ht : t = 0 ∨ t = 1) (hd : s.dead = false) (hO : s.Ok) (hf : (q.length : Int) ≤ s.free) :
    (s.left = 0 ∧ s.write t q = ({ s with dead := true }, 30)) ∨ ∃ s', s.write t q = (s', 0) ∧ Upd s t (s.safe t) (s.rest t ++ q) s' := by
  rcases op_cases s t (·.write1 t q) ht hd hO with h | ⟨h, hd1, hO1, hl1, hfr⟩
  · exact .inl h
  · right
    obtain ⟨z0, z1, z2, z3, z4, _⟩ := s.start_tapes
    have hsafe : s.start.1.safe t = s.safe t := by unfold RS.safe; rw [z0, z2]
    have hrest : s.start.1.rest t = s.rest t := by unfold RS.rest; rw [z1, z3]
    refine ⟨s.start.1.tick.put t (s.safe t) (s.rest t ++ q), ?_, put_upd s s.start.1 t ht rfl hd1 _ _ ?_ hl1⟩
    · show s.op t (·.write1 t q) = _
      rw [h]
      unfold RS.write1
      rw [if_neg (by omega), hsafe, hrest]
    · refine hO1.tick.put t _ _ ?_
      have e1 : s.start.1.tick.safe t = s.safe t := hsafe
      have e2 : s.start.1.tick.rest t = s.rest t := hrest
      have e3 : s.start.1.tick.free = s.free := hfr
      rw [e1, e2, e3, List.length_append]
      omega
theorem free_eq (s : RS) : s.free = s.room - s.used := by
  unfold RS.free RS.used
  omega
theorem sync_cases (s : RS) (t : Int) (ht : t = 0 ∨ t = 1) (hd : s.dead = false) (hO : s.Ok) :
    (s.left = 0 ∧ s.sync t = ({ s with dead := true }, 30)) ∨ ∃ s', s.sync t = (s', 0) ∧ Upd s t (s.safe t ++ s.rest t) [] s' := by
  rcases op_cases s t (·.sync1 t) ht hd hO with h | ⟨h, hd1, hO1, hl1, hfr⟩
  · exact .inl h
  · right
    obtain ⟨z0, z1, z2, z3, z4, _⟩ := s.start_tapes
    have hsafe : s.start.1.safe t = s.safe t := by unfold RS.safe; rw [z0, z2]
    have hrest : s.start.1.rest t = s.rest t := by unfold RS.rest; rw [z1, z3]
    refine ⟨s.start.1.tick.put t (s.safe t ++ s.rest t) [], ?_, put_upd s s.start.1 t ht rfl hd1 _ _ ?_ hl1⟩
    · show s.op t (·.sync1 t) = _
      rw [h]
      unfold RS.sync1
      first | rw [hsafe, hrest] | rfl
    · refine hO1.tick.put t _ _ ?_
      have e1 : s.start.1.tick.safe t = s.safe t := hsafe
      have e2 : s.start.1.tick.rest t = s.rest t := hrest
      have e3 : s.start.1.tick.free = s.free := hfr
      have e4 := hO.free.1
      rw [e1, e2, e3]
      simp only [List.length_append, List.length_nil]
      omega
theorem wipe_cases (s : RS) (t : Int) (ht : t = 0 ∨ t = 1) (hd : s.dead = false) (hO : s.Ok) :
    (s.left = 0 ∧ s.wipe t = ({ s with dead := true }, 30)) ∨ ∃ s', s.wipe t = (s', 0) ∧ Upd s t [] [] s' := by
  rcases op_cases s t (·.wipe1 t) ht hd hO with h | ⟨h, hd1, hO1, hl1, hfr⟩
  · exact .inl h
  · right
    obtain ⟨z0, z1, z2, z3, z4, _⟩ := s.start_tapes
    have hsafe : s.start.1.safe t = s.safe t := by unfold RS.safe; rw [z0, z2]
    have hrest : s.start.1.rest t = s.rest t := by unfold RS.rest; rw [z1, z3]
    refine ⟨s.start.1.tick.put t [] [], ?_, put_upd s s.start.1 t ht rfl hd1 _ _ ?_ hl1⟩
    · show s.op t (·.wipe1 t) = _
      rw [h]
      unfold RS.wipe1
      first | rw [hsafe, hrest] | rfl
    · refine hO1.tick.put t _ _ ?_
      have e1 : s.start.1.tick.safe t = s.safe t := hsafe
      have e2 : s.start.1.tick.rest t = s.rest t := hrest
      have e3 : s.start.1.tick.free = s.free := hfr
      have e4 := hO.free.1
      rw [e1, e2, e3]
      simp only [List.length_append, List.length_nil]
      omega
theorem trim_cases (s : RS) (t : Int) (n : Nat) (ht : t = 0 ∨ t = 1) (hd : s.dead = false) (hO : s.Ok) (hn : n ≤ (s.safe t).length + (s.rest t).length) :
    (s.left = 0 ∧ s.trim t n = ({ s with dead := true }, 30)) ∨ ∃ s', s.trim t n = (s', 0) ∧ Upd s t ((s.safe t).take n) ((s.rest t).take (n - (s.safe t).length)) s' := by
  have hu : s.trim t n = s.op t (·.trim1 t n) := if_neg (by omega)
  rw [hu]
  rcases op_cases s t (·.trim1 t n) ht hd hO with h | ⟨h, hd1, hO1, hl1, hfr⟩
  · exact .inl h
  · right
    obtain ⟨z0, z1, z2, z3, z4, _⟩ := s.start_tapes
    have hsafe : s.start.1.safe t = s.safe t := by unfold RS.safe; rw [z0, z2]
    have hrest : s.start.1.rest t = s.rest t := by unfold RS.rest; rw [z1, z3]
    refine ⟨s.start.1.tick.put t ((s.safe t).take n) ((s.rest t).take (n - (s.safe t).length)), ?_, put_upd s s.start.1 t ht rfl hd1 _ _ ?_ hl1⟩
    · rw [h]
      unfold RS.trim1
      rw [if_neg (by rw [hsafe, hrest]; omega), hsafe, hrest, Int.toNat_natCast]
    · refine hO1.tick.put t _ _ ?_
      have e1 : s.start.1.tick.safe t = s.safe t := hsafe
      have e2 : s.start.1.tick.rest t = s.rest t := hrest
      have e3 : s.start.1.tick.free = s.free := hfr
      have e4 := hO.free.1
      rw [e1, e2, e3]
      simp only [List.length_take]
      omega
end Go.Proofs.YtopajmbblemopaaGreatDoor
namespace Go.Proofs.YtopajmbblemopaaGreatDoor
set_option linter.unusedVariables false
set_option linter.unusedSimpArgs false
open Go.RowKit Go.Lib
structure Fits (e : Int) (b : Txt) (recs : List Txt) : Prop where
  e0 : 1 ≤ e
  e1 : e ≤ 1000000
  hb : b.length ≤ 524288
  hq : ∀ q ∈ recs, q.length ≤ 524288
  hl : recs.length ≤ 100000
theorem Fits.top {e : Int} {b : Txt} {recs : List Txt} (h : Fits e b recs) : e ≤ topEpoch := by have := h.e1; unfold topEpoch; omega
/-- A ledger that is alive, and all of it safe. -/
structure Clean (s : RS) (L : LS) (b : Txt) (recs : List Txt) : Prop where
  ok : s.Ok
  dead : s.dead = false
  broken : L.broken = false
  tape : L.tape = 0 ∨ L.tape = 1
  full : s.safe L.tape = led L.epoch b recs
  rest : s.rest L.tape = []
  safe' : s.safe (1 - L.tape) = []
  rest' : s.rest (1 - L.tape) = []
  n : L.recs = recs.length
  fits : Fits L.epoch b recs
/-- Behind a crash: one tape tells, of the other one nothing is told that is newer. -/
structure After (s : RS) (t : Int) (e : Int) (b : Txt) (recs : List Txt) : Prop where
  ok : s.Ok
  dead : s.dead = false
  left : s.left = -1
  tape : t = 0 ∨ t = 1
  rest : s.rest t = []
  rest' : s.rest (1 - t) = []
  full : ∃ j, s.safe t = led e b recs ++ j ∧ Stop recs.length j
  older : (scanL (s.safe (1 - t))).1 < e
  fits : Fits e b recs
theorem After.open_ {s : RS} {t e : Int} {b : Txt} {recs : List Txt} (h : After s t e b recs) :
    ∃ s' L, openM s = (s', 0) ∧ Clean s' L b recs ∧ openOf (tapeOf s 0) (tapeOf s 1) = L ∧ pickC (tapeOf s 0) (tapeOf s 1) = (e, b, recs, (led e b recs).length) ∧ L.epoch = e ∧ L.tape = t ∧ s'.left = -1 ∧ s'.room = s.room ∧ s'.used ≤ s.used := by
  obtain ⟨j, hj, hs⟩ := h.full
  have ht := h.tape
  have hf := h.fits
  have e0 := hf.e0
  have hsc : scanL (tapeOf s t) = (e, b, recs, (led e b recs).length) := by
    unfold tapeOf
    rw [h.rest, List.append_nil, hj]
    exact scan_led e b recs j e0 hf.top hf.hb hf.hq (by have := hf.hl; omega) hs
  have hold : (scanL (tapeOf s (1 - t))).1 < e := by
    unfold tapeOf
    rw [h.rest', List.append_nil]
    exact h.older
  have hpick : pickT (tapeOf s 0) (tapeOf s 1) = t ∧ pickC (tapeOf s 0) (tapeOf s 1) = (e, b, recs, (led e b recs).length) := by
    unfold pickT pickC
    rcases ht with rfl | rfl
    · rw [show (1 : Int) - 0 = 1 from rfl] at hold
      rw [hsc, if_neg (by simp only; omega), if_neg (by simp only; omega)]
      exact ⟨rfl, rfl⟩
    · rw [show (1 : Int) - 1 = 0 from rfl] at hold
      rw [hsc, if_pos (by simp only; omega), if_pos (by simp only; omega)]
      exact ⟨rfl, rfl⟩
  obtain ⟨p1, p2⟩ := hpick
  have hof : openOf (tapeOf s 0) (tapeOf s 1) = ⟨t, e, (recs.length : Int), false⟩ := by
    unfold openOf
    rw [p1, p2]
    simp only
    rw [if_neg (by omega)]
  have hst : openSteps (tapeOf s 0) (tapeOf s 1) = [fun s' => cutTo s' t (led e b recs).length (s.safe t).length, fun s' => clr s' (1 - t) (s.safe (1 - t))] := by
    unfold openSteps
    rw [if_neg (by rw [p2]; simp only; omega)]
    unfold oldSteps
    rw [p1, p2]
    rcases ht with rfl | rfl
    · rw [if_pos rfl, if_pos rfl]
      unfold tapeOf
      rw [h.rest, show s.rest 1 = [] from h.rest', List.append_nil, List.append_nil]
      rfl
    · rw [if_neg (by decide), if_neg (by decide)]
      unfold tapeOf
      rw [h.rest, show s.rest 0 = [] from h.rest', List.append_nil, List.append_nil]
      rfl
  -- the first step
  have st1 : ∃ s1, cutTo s t (led e b recs).length (s.safe t).length = (s1, 0) ∧ Upd s t (led e b recs) [] s1 := by
    unfold cutTo
    by_cases hn : (led e b recs).length = (s.safe t).length
    · rw [if_pos hn]
      have hj0 : j = [] := by
        have := congrArg List.length hj
        rw [List.length_append] at this
        exact List.eq_nil_of_length_eq_zero (by omega)
      rw [hj0, List.append_nil] at hj
      exact ⟨s, rfl, h.ok, h.dead, hj, h.rest, rfl, rfl, rfl, fun q => q⟩
    · rw [if_neg hn]
      have hle : (led e b recs).length ≤ (s.safe t).length := by rw [hj, List.length_append]; omega
      rcases trim_cases s t (led e b recs).length ht h.dead h.ok (by omega) with ⟨q, _⟩ | ⟨s1, h1, hu⟩
      · rw [h.left] at q; omega
      · refine ⟨s1, h1, ?_⟩
        rw [h.rest, List.take_nil, hj, List.take_left'  rfl] at hu
        exact hu
  obtain ⟨s1, h1, u1⟩ := st1
  have st2 : ∃ s2, clr s1 (1 - t) (s.safe (1 - t)) = (s2, 0) ∧ Upd s1 (1 - t) [] [] s2 := by
    unfold clr
    by_cases hn : s.safe (1 - t) = []
    · rw [if_pos hn]
      exact ⟨s1, rfl, u1.ok, u1.dead, by rw [u1.safe', hn], by rw [u1.rest', h.rest'], rfl, rfl, rfl, fun q => q⟩
    · rw [if_neg hn]
      rcases wipe_cases s1 (1 - t) (by omega) u1.dead u1.ok with ⟨q, _⟩ | ⟨s2, h2, hu⟩
      · rw [u1.left h.left] at q; omega
      · exact ⟨s2, h2, hu⟩
  obtain ⟨s2, h2, u2⟩ := st2
  have htt : 1 - (1 - t) = t := by omega
  have uS := u2.safe'
  have uR := u2.rest'
  rw [htt] at uS uR
  rw [u1.safe] at uS
  rw [u1.rest] at uR
  refine ⟨s2, ⟨t, e, (recs.length : Int), false⟩, ?_, ⟨u2.ok, u2.dead, rfl, ht, uS, uR, u2.safe, u2.rest, rfl, hf⟩, hof, p2, rfl, rfl, u2.left (u1.left h.left), u2.room.trans u1.room, ?_⟩
  · unfold openM
    rw [if_neg (by rw [h.dead]; decide), hst]
    simp [errsOf, doneN, firstE, stAt, h1, h2]
  · rw [used_eq s2 t ht, used_eq s t ht, uS, uR, u2.safe, u2.rest, hj]
    simp only [List.length_append, List.length_nil]
    omega
theorem Clean.after {s : RS} {L : LS} {b : Txt} {recs : List Txt} (h : Clean s L b recs) (k0 k1 : Int) (tn : UInt8) : After (s.crash k0 k1 tn) L.tape L.epoch b recs := by
  have hr : s.r0 = [] ∧ s.r1 = [] := by
    have h1 := h.rest
    have h2 := h.rest'
    rcases h.tape with q | q <;> rw [q] at h1 h2
    · exact ⟨h1, h2⟩
    · exact ⟨h2, h1⟩
  have hs : ∀ t, (s.crash k0 k1 tn).safe t = s.safe t := by
    intro t
    unfold RS.crash RS.safe
    rw [hr.1, hr.2, kept_nil, kept_nil, List.append_nil, List.append_nil]
  have hre : ∀ t, (s.crash k0 k1 tn).rest t = [] := by
    intro t
    unfold RS.crash RS.rest
    simp
  refine ⟨h.ok.crash _ _ _, rfl, rfl, h.tape, hre _, hre _, ⟨[], ?_, stop_none read_nil'⟩, ?_, h.fits⟩
  · rw [hs, h.full, List.append_nil]
  · rw [hs, h.safe', scan_none read_nil']
    have := h.fits.e0
    show (0 : Int) < _
    omega
end Go.Proofs.YtopajmbblemopaaGreatDoor
namespace Go.Proofs.YtopajmbblemopaaGreatDoor
set_option linter.unusedVariables false
set_option linter.unusedSimpArgs false
open Go.RowKit Go.Lib
theorem crash_safe (s : RS) (t : Int) (k0 k1 : Int) (tn : UInt8) : (s.crash k0 k1 tn).safe t = s.safe t ++ RS.kept (s.rest t) (if t = 0 then k0 else k1) tn := by
  unfold RS.crash RS.safe RS.rest
  split <;> rfl
theorem crash_rest (s : RS) (t : Int) (k0 k1 : Int) (tn : UInt8) : (s.crash k0 k1 tn).rest t = [] := by
  unfold RS.crash RS.rest
  simp
theorem crash_used (s : RS) (k0 k1 : Int) (tn : UInt8) : (s.crash k0 k1 tn).used ≤ s.used := by
  have a := RS.kept_length s.r0 k0 tn
  have b := RS.kept_length s.r1 k1 tn
  simp only [RS.used, RS.crash, List.length_append, List.length_nil]
  omega
/-- The power is off; behind a crash one or the other is told. -/
structure Torn (s : RS) (E : Int) (b : Txt) (recs : List Txt) (b' : Txt) (recs' : List Txt) : Prop where
  ok : s.Ok
  dead : s.dead = true
  told : ∀ k0 k1, ∃ t e, e ≤ E ∧ (After (s.crash k0 k1 0) t e b recs ∨ After (s.crash k0 k1 0) t e b' recs')
theorem Fits.add {e : Int} {b : Txt} {recs : List Txt} (h : Fits e b recs) {q : Txt} (hq : q.length ≤ 524288) (hl : recs.length < 100000) : Fits e b (recs ++ [q]) :=
  ⟨h.e0, h.e1, h.hb, fun x hx => (List.mem_append.1 hx).elim (h.hq x) (fun y => by rw [List.mem_singleton.1 y]; exact hq), by simp; omega⟩
theorem rec_in {recs : List Txt} (hl : recs.length < 100000) : inI64 ((recs.length : Int) + 1) := by unfold inI64; omega
theorem torn_or (l : Txt) (k : Int) : RS.kept l k 0 = l ∨ ∃ m, m < l.length ∧ RS.kept l k 0 = l.take m := by
  obtain ⟨m, hm⟩ := kept_zero l k
  by_cases h : m < l.length
  · exact .inr ⟨m, h, hm⟩
  · exact .inl (by rw [hm, List.take_of_length_le (by omega)])
theorem Clean.add {s : RS} {L : LS} {b : Txt} {recs : List Txt} (h : Clean s L b recs) (q : Txt) (hq : q.length ≤ 524288) (hf : (q.length : Int) + 140 ≤ s.free) (hl : recs.length < 100000) :
    (∃ s' L', addM s L q = (s', L', 0) ∧ Clean s' L' b (recs ++ [q]) ∧ L'.tape = L.tape ∧ L'.epoch = L.epoch ∧ L'.recs = L.recs + 1 ∧ s'.room = s.room ∧ s'.used ≤ s.used + q.length + 140 ∧ (s.left = -1 → s'.left = -1)) ∨
    (s.left ≠ -1 ∧ ∃ s' L', addM s L q = (s', L', 30) ∧ L'.broken = true ∧ Torn s' L.epoch b recs b (recs ++ [q]) ∧ s'.room = s.room ∧ s'.used ≤ s.used + q.length + 140) := by
  have ht := h.tape
  have hst : L.start q.length = 0 := by unfold LS.start; rw [if_neg (by rw [h.broken]; decide), if_neg (by omega)]
  obtain ⟨P, hP⟩ : ∃ P, laidL kRec (L.recs + 1) q = P := ⟨_, rfl⟩
  have hP' : laidL kRec ((recs.length : Int) + 1) q = P := by rw [← h.n]; exact hP
  have hlen := laid_len kRec ((recs.length : Int) + 1) q (by decide) (rec_in hl) hq
  rw [hP'] at hlen
  have hfull := h.full
  have hled : led L.epoch b (recs ++ [q]) = led L.epoch b recs ++ P := by rw [led_append, hP']
  have hF := h.fits
  have e0 := hF.e0
  unfold addM
  rw [if_neg (by rw [hst]; decide), hP]
  rcases write_cases s L.tape P ht h.dead h.ok (by omega) with ⟨hl0, hw⟩ | ⟨s1, hw, u1⟩
  · right
    have hwr : wr s L L.tape P = ({ s with dead := true }, { L with broken := true }, 30) := by
      unfold wr
      rw [hw]
      rfl
    rw [hwr]
    refine ⟨by omega, { s with dead := true }, { L with broken := true }, rfl, rfl, ⟨⟨h.ok.room0, h.ok.room1, h.ok.used, h.ok.left0, h.ok.left1⟩, rfl, fun k0 k1 => ⟨L.tape, L.epoch, Int.le_refl _, .inl (h.after k0 k1 0)⟩⟩, rfl, ?_⟩
    show s.used ≤ _
    omega
  · have w1 : (s.write L.tape P).1 = s1 := by rw [hw]
    rw [hfull] at u1
    rw [h.rest, List.nil_append] at u1
    have v1 := u1.safe'
    have v2 := u1.rest'
    rw [h.safe'] at v1
    rw [h.rest'] at v2
    have hu1 : s1.used ≤ s.used + q.length + 140 := by
      rw [used_eq s1 _ ht, used_eq s _ ht, u1.safe, u1.rest, v1, v2, hfull]
      simp only [List.length_nil]
      omega
    rcases sync_cases s1 L.tape ht u1.dead u1.ok with ⟨hl1, hy⟩ | ⟨s2, hy, u2⟩
    · right
      have hwr : wr s L L.tape P = ({ s1 with dead := true }, { L with broken := true }, 30) := by
        unfold wr
        rw [hw, if_neg (by show ¬ (0 : Int) = 5; decide), if_pos rfl]
        show ((s1.sync L.tape).1, { L with broken := (s1.sync L.tape).2 != 0 }, (s1.sync L.tape).2) = _
        rw [hy]
        rfl
      rw [hwr]
      refine ⟨fun hm => by have := u1.left hm; omega, { s1 with dead := true }, { L with broken := true }, rfl, rfl, ⟨⟨u1.ok.room0, u1.ok.room1, u1.ok.used, u1.ok.left0, u1.ok.left1⟩, rfl, fun k0 k1 => ⟨L.tape, L.epoch, Int.le_refl _, ?_⟩⟩, u1.room, hu1⟩
      have hc : ({ s1 with dead := true } : RS).crash k0 k1 0 = s1.crash k0 k1 0 := rfl
      rw [hc]
      have cs := crash_safe s1 L.tape k0 k1 0
      rw [u1.safe, u1.rest] at cs
      have co := crash_safe s1 (1 - L.tape) k0 k1 0
      rw [v1, v2, kept_nil, List.append_nil] at co
      have hold : (scanL ((s1.crash k0 k1 0).safe (1 - L.tape))).1 < L.epoch := by
        rw [co, scan_none read_nil']
        show (0 : Int) < _
        omega
      rcases torn_or P (if L.tape = 0 then k0 else k1) with hk | ⟨m, hm, hk⟩
      · right
        rw [hk, ← hled] at cs
        exact ⟨u1.ok.crash _ _ _, rfl, rfl, ht, crash_rest _ _ _ _ _, crash_rest _ _ _ _ _, ⟨[], by rw [cs, List.append_nil], stop_none read_nil'⟩, hold, hF.add hq hl⟩
      · left
        rw [hk] at cs
        refine ⟨u1.ok.crash _ _ _, rfl, rfl, ht, crash_rest _ _ _ _ _, crash_rest _ _ _ _ _, ⟨_, cs, stop_none ?_⟩, hold, hF⟩
        rw [← hP'] at hm ⊢
        exact torn_none _ _ _ (by decide) (rec_in hl) hq _ hm
    · left
      have hwr : wr s L L.tape P = (s2, { L with broken := false }, 0) := by
        unfold wr
        rw [hw, if_neg (by show ¬ (0 : Int) = 5; decide), if_pos rfl]
        show ((s1.sync L.tape).1, { L with broken := (s1.sync L.tape).2 != 0 }, (s1.sync L.tape).2) = _
        rw [hy]
        rfl
      rw [hwr]
      have x1 := u2.safe'
      have x2 := u2.rest'
      rw [v1] at x1
      rw [v2] at x2
      have x0 := u2.safe
      rw [u1.safe, u1.rest, ← hled] at x0
      refine ⟨s2, { L with broken := false, recs := L.recs + 1 }, rfl, ⟨u2.ok, u2.dead, rfl, ht, x0, u2.rest, x1, x2, ?_, hF.add hq hl⟩, rfl, rfl, rfl, u2.room.trans u1.room, ?_, fun hm => u2.left (u1.left hm)⟩
      · show L.recs + 1 = _
        rw [h.n]
        simp
      · rw [used_eq s2 _ ht, used_eq s _ ht, x0, u2.rest, x1, x2, hfull, hled]
        simp only [List.length_nil, List.length_append]
        omega
theorem base_in {e : Int} (h0 : 1 ≤ e) (h1 : e ≤ 1000000) : inI64 (e + 1) := by unfold inI64; omega
theorem Clean.base {s : RS} {L : LS} {b : Txt} {recs : List Txt} (h : Clean s L b recs) (q : Txt) (hq : q.length ≤ 524288) (hf : (q.length : Int) + 140 ≤ s.free) (hl : L.epoch < 1000000) :
    (∃ s' L', baseM s L q = (s', L', 0) ∧ Clean s' L' q [] ∧ L'.tape = 1 - L.tape ∧ L'.epoch = L.epoch + 1 ∧ L'.recs = 0 ∧ s'.room = s.room ∧ s'.used ≤ s.used + q.length + 140 ∧ (s.left = -1 → s'.left = -1)) ∨
    (s.left ≠ -1 ∧ ∃ s' L', baseM s L q = (s', L', 30) ∧ L'.broken = true ∧ Torn s' (L.epoch + 1) b recs q [] ∧ s'.room = s.room ∧ s'.used ≤ s.used + q.length + 140) := by
  have ht := h.tape
  have ht' : 1 - L.tape = 0 ∨ 1 - L.tape = 1 := by omega
  have htt : 1 - (1 - L.tape) = L.tape := by omega
  have hst : L.start q.length = 0 := by unfold LS.start; rw [if_neg (by rw [h.broken]; decide), if_neg (by omega)]
  obtain ⟨P, hP⟩ : ∃ P, laidL kBase (L.epoch + 1) q = P := ⟨_, rfl⟩
  have hF := h.fits
  have e0 := hF.e0
  have hlen := laid_len kBase (L.epoch + 1) q (by decide) (base_in e0 hF.e1) hq
  rw [hP] at hlen
  have hfull := h.full
  have hled : led (L.epoch + 1) q [] = P := by unfold led recPages; rw [List.append_nil, hP]
  have hF' : Fits (L.epoch + 1) q [] := ⟨by omega, by omega, hq, fun x hx => by simp at hx, by simp⟩
  have hscan : ∀ j, Stop recs.length j → (scanL (led L.epoch b recs ++ j)).1 = L.epoch := fun j hj => by rw [scan_led L.epoch b recs j e0 hF.top hF.hb hF.hq (by have := hF.hl; omega) hj]
  unfold baseM
  rw [if_neg (by rw [hst]; decide), hP]
  rcases write_cases s (1 - L.tape) P ht' h.dead h.ok (by omega) with ⟨hl0, hw⟩ | ⟨s1, hw, u1⟩
  · right
    have hwr : wr s L (1 - L.tape) P = ({ s with dead := true }, { L with broken := true }, 30) := by
      unfold wr
      rw [hw]
      rfl
    rw [hwr, if_pos (by show (30 : Int) ≠ 0; decide)]
    refine ⟨by omega, { s with dead := true }, { L with broken := true }, rfl, rfl, ⟨⟨h.ok.room0, h.ok.room1, h.ok.used, h.ok.left0, h.ok.left1⟩, rfl, fun k0 k1 => ⟨L.tape, L.epoch, by omega, .inl (h.after k0 k1 0)⟩⟩, rfl, ?_⟩
    show s.used ≤ _
    omega
  · rw [h.safe', h.rest', List.nil_append] at u1
    have v1 := u1.safe'
    have v2 := u1.rest'
    rw [htt, hfull] at v1
    rw [htt, h.rest] at v2
    have hu1 : s1.used ≤ s.used + q.length + 140 := by
      rw [used_eq s1 _ ht', used_eq s _ ht', u1.safe, u1.rest, htt, v1, v2, hfull, h.rest, h.safe', h.rest']
      simp only [List.length_nil]
      omega
    rcases sync_cases s1 (1 - L.tape) ht' u1.dead u1.ok with ⟨hl1, hy⟩ | ⟨s2, hy, u2⟩
    · right
      have hwr : wr s L (1 - L.tape) P = ({ s1 with dead := true }, { L with broken := true }, 30) := by
        unfold wr
        rw [hw, if_neg (by show ¬ (0 : Int) = 5; decide), if_pos rfl]
        show ((s1.sync (1 - L.tape)).1, { L with broken := (s1.sync (1 - L.tape)).2 != 0 }, (s1.sync (1 - L.tape)).2) = _
        rw [hy]
        rfl
      rw [hwr, if_pos (by show (30 : Int) ≠ 0; decide)]
      refine ⟨fun hm => by have := u1.left hm; omega, { s1 with dead := true }, { L with broken := true }, rfl, rfl, ⟨⟨u1.ok.room0, u1.ok.room1, u1.ok.used, u1.ok.left0, u1.ok.left1⟩, rfl, fun k0 k1 => ?_⟩, u1.room, hu1⟩
      have hc : ({ s1 with dead := true } : RS).crash k0 k1 0 = s1.crash k0 k1 0 := rfl
      rw [hc]
      have cs := crash_safe s1 L.tape k0 k1 0
      rw [v1, v2, kept_nil] at cs
      have co := crash_safe s1 (1 - L.tape) k0 k1 0
      rw [u1.safe, u1.rest, List.nil_append] at co
      rcases torn_or P (if 1 - L.tape = 0 then k0 else k1) with hk | ⟨m, hm, hk⟩
      · rw [hk] at co
        refine ⟨1 - L.tape, L.epoch + 1, Int.le_refl _, .inr ⟨u1.ok.crash _ _ _, rfl, rfl, ht', crash_rest _ _ _ _ _, crash_rest _ _ _ _ _, ⟨[], by rw [co, hled, List.append_nil], stop_none read_nil'⟩, ?_, hF'⟩⟩
        rw [htt, cs, hscan [] (stop_none read_nil')]
        omega
      · rw [hk] at co
        refine ⟨L.tape, L.epoch, by omega, .inl ⟨u1.ok.crash _ _ _, rfl, rfl, ht, crash_rest _ _ _ _ _, crash_rest _ _ _ _ _, ⟨[], cs, stop_none read_nil'⟩, ?_, hF⟩⟩
        rw [co]
        rw [← hP] at hm ⊢
        rw [scan_none (torn_none _ _ _ (by decide) (base_in e0 hF.e1) hq _ hm)]
        show (0 : Int) < _
        omega
    · have hwr : wr s L (1 - L.tape) P = (s2, { L with broken := false }, 0) := by
        unfold wr
        rw [hw, if_neg (by show ¬ (0 : Int) = 5; decide), if_pos rfl]
        show ((s1.sync (1 - L.tape)).1, { L with broken := (s1.sync (1 - L.tape)).2 != 0 }, (s1.sync (1 - L.tape)).2) = _
        rw [hy]
        rfl
      rw [hwr, if_neg (by show ¬ (0 : Int) ≠ 0; decide)]
      have x1 := u2.safe'
      have x2 := u2.rest'
      rw [htt, v1] at x1
      rw [htt, v2] at x2
      have x0 := u2.safe
      rw [u1.safe, u1.rest, List.nil_append] at x0
      have hu2 : s2.used ≤ s.used + q.length + 140 := by
        rw [used_eq s2 _ ht', used_eq s _ ht', x0, u2.rest, htt, x1, x2, hfull, h.rest, h.safe', h.rest']
        simp only [List.length_nil]
        omega
      rcases wipe_cases s2 L.tape ht u2.dead u2.ok with ⟨hl2, hz⟩ | ⟨s3, hz, u3⟩
      · right
        rw [show (s2, ({ L with broken := false } : LS), (0 : Int)).1 = s2 from rfl, hz, if_pos (by show (30 : Int) ≠ 0; decide)]
        refine ⟨fun hm => by have := u2.left (u1.left hm); omega, { s2 with dead := true }, { L with broken := true }, rfl, rfl, ⟨⟨u2.ok.room0, u2.ok.room1, u2.ok.used, u2.ok.left0, u2.ok.left1⟩, rfl, fun k0 k1 => ?_⟩, u2.room.trans u1.room, hu2⟩
        have hc : ({ s2 with dead := true } : RS).crash k0 k1 0 = s2.crash k0 k1 0 := rfl
        rw [hc]
        have cs := crash_safe s2 L.tape k0 k1 0
        rw [x1, x2, kept_nil] at cs
        have co := crash_safe s2 (1 - L.tape) k0 k1 0
        rw [x0, u2.rest, kept_nil, List.append_nil] at co
        refine ⟨1 - L.tape, L.epoch + 1, Int.le_refl _, .inr ⟨u2.ok.crash _ _ _, rfl, rfl, ht', crash_rest _ _ _ _ _, crash_rest _ _ _ _ _, ⟨[], by rw [co, hled, List.append_nil], stop_none read_nil'⟩, ?_, hF'⟩⟩
        rw [htt, cs, hscan [] (stop_none read_nil')]
        omega
      · left
        rw [show (s2, ({ L with broken := false } : LS), (0 : Int)).1 = s2 from rfl, hz, if_neg (by show ¬ (0 : Int) ≠ 0; decide)]
        have y1 := u3.safe'
        have y2 := u3.rest'
        rw [x0] at y1
        rw [u2.rest] at y2
        refine ⟨s3, { L with broken := false, tape := 1 - L.tape, epoch := L.epoch + 1, recs := 0 }, rfl, ⟨u3.ok, u3.dead, rfl, ht', y1.trans hled.symm, y2, ?_, ?_, rfl, hF'⟩, rfl, rfl, rfl, u3.room.trans (u2.room.trans u1.room), ?_, fun hm => u3.left (u2.left (u1.left hm))⟩
        · show s3.safe (1 - (1 - L.tape)) = []
          rw [htt]
          exact u3.safe
        · show s3.rest (1 - (1 - L.tape)) = []
          rw [htt]
          exact u3.rest
        · rw [used_eq s3 _ ht, used_eq s _ ht, u3.safe, u3.rest, y1, y2, hfull, h.rest, h.safe', h.rest']
          simp only [List.length_nil]
          omega
/-- A new reel: the ledger is new. -/
theorem new_open (room : Int) (h0 : 140 ≤ room) (h1 : room ≤ 4194304) :
    ∃ s' L, openM (RS.new room) = (s', 0) ∧ Clean s' L [] [] ∧ openOf (tapeOf (RS.new room) 0) (tapeOf (RS.new room) 1) = L ∧ pickC (tapeOf (RS.new room) 0) (tapeOf (RS.new room) 1) = (0, [], [], 0) ∧ L.epoch = 1 ∧ L.tape = 0 ∧ L.recs = 0 ∧ s'.left = -1 ∧ s'.room = room ∧ s'.used ≤ 140 := by
  have e0 : tapeOf (RS.new room) 0 = [] := rfl
  have e1 : tapeOf (RS.new room) 1 = [] := rfl
  have hO : (RS.new room).Ok := ⟨by show 0 ≤ room; omega, h1, by show (0 : Int) ≤ room; omega, by show (-9223372036854775808 : Int) ≤ -1; decide, by show (-1 : Int) ≤ 9223372036854775807; decide⟩
  have hsc : scanL [] = (0, [], [], 0) := scan_none read_nil'
  have hc : pickC [] [] = (0, [], [], 0) := by unfold pickC; rw [hsc]; rfl
  have ht : pickT [] [] = 0 := by unfold pickT; rw [hsc]; rfl
  have hst : openSteps [] [] = newSteps [] [] := by unfold openSteps; rw [hc]; rfl
  have hin : inI64 1 := by unfold inI64; omega
  have hlen := laid_len kBase 1 [] (by decide) hin (by decide)
  have hled : led 1 [] [] = laidL kBase 1 [] := by unfold led recPages; rw [List.append_nil]
  have hfree : (RS.new room).free = room := by show room - 0 - 0 = room; omega
  rw [e0, e1]
  simp only [List.length_nil] at hlen
  rcases write_cases (RS.new room) 0 (laidL kBase 1 []) (.inl rfl) rfl hO (by omega) with ⟨q, _⟩ | ⟨s1, hw, u1⟩
  · exact absurd q (by show ¬ (-1 : Int) = 0; decide)
  · rcases sync_cases s1 0 (.inl rfl) u1.dead u1.ok with ⟨q, _⟩ | ⟨s2, hy, u2⟩
    · have := u1.left rfl
      omega
    · have x0 := u2.safe
      rw [u1.safe, u1.rest] at x0
      have x1 := u2.safe'
      rw [u1.safe'] at x1
      have x2 := u2.rest'
      rw [u1.rest'] at x2
      have x0' : s2.safe 0 = laidL kBase 1 [] := x0
      have hof : openOf [] [] = ⟨0, 1, 0, false⟩ := by unfold openOf; rw [hc, ht]; rfl
      refine ⟨s2, ⟨0, 1, 0, false⟩, ?_, ⟨u2.ok, u2.dead, rfl, .inl rfl, x0'.trans hled.symm, u2.rest, x1, x2, rfl, ⟨by show (1 : Int) ≤ 1; omega, by show (1 : Int) ≤ 1000000; omega, by decide, fun x hx => by simp at hx, by decide⟩⟩, hof, hc, rfl, rfl, rfl, u2.left (u1.left rfl), u2.room.trans u1.room, ?_⟩
      · unfold openM
        rw [if_neg (by show ¬ false = true; decide), e0, e1, hst]
        unfold newSteps
        simp [errsOf, doneN, firstE, stAt, clr, hw, hy]
      · rw [used_eq s2 0 (.inl rfl), x0', u2.rest, x1, x2]
        have z1 : ((RS.new room).safe (1 - 0)).length = 0 := rfl
        have z2 : ((RS.new room).rest (1 - 0)).length = 0 := rfl
        rw [z1, z2]
        simp only [List.length_nil]
        omega
end Go.Proofs.YtopajmbblemopaaGreatDoor
namespace Go.Proofs.YtopajmbblemopaaGreatDoor
set_option linter.unusedVariables false
set_option linter.unusedSimpArgs false
open Go.RowKit
def commitM (s : RS) (L : LS) (p : Sh) (l : List Chn) : RS × LS × Sh × Int :=
  if l.all isC = false then (s, L, p, 2)
  else if l = [] then (s, L, p, 0)
  else if 4096 < l.length then (s, L, p, 1)
  else if (addM s L (textC l)).2.2 = 0 then ((addM s L (textC l)).1, (addM s L (textC l)).2.1, doAll p l, 0)
  else ((addM s L (textC l)).1, (addM s L (textC l)).2.1, p, (addM s L (textC l)).2.2)
def packM (s : RS) (L : LS) (p : Sh) : RS × LS × Int := if 4096 < p.length then (s, L, 1) else baseM s L (textC (packC p))
/-- The changes of texts, one behind the other. -/
def readTexts : List Txt → Sh → Option Sh
  | [], p => some p
  | x :: l, p => match readC x with | none => none | some c => readTexts l (doAll p c)
theorem texts_app : ∀ (a b : List Txt) (p : Sh), readTexts (a ++ b) p = match readTexts a p with | none => none | some q => readTexts b q
  | [], b, p => rfl
  | x :: a, b, p => by
    rw [List.cons_append, readTexts, readTexts]
    cases readC x with
    | none => rfl
    | some c => exact texts_app a b (doAll p c)
/-- Each pair may be a change. -/
def Valid (p : Sh) : Prop := ∀ a ∈ p, isC ⟨a.1, false, a.2⟩ = true
theorem valid_do {p : Sh} (h : Valid p) {c : Chn} (hc : isC c = true) : Valid (doC p c) := by
  intro a ha
  unfold doC at ha
  split at ha
  · exact h a (mem_del ha)
  · rcases mem_put ha with rfl | ha
    · obtain ⟨h1, h2, h3, h4⟩ := (isC_iff c).1 hc
      exact (isC_iff _).2 ⟨h1, h2, h3, .inl rfl⟩
    · exact h a ha
theorem valid_all : ∀ {l : List Chn} {p : Sh}, Valid p → (∀ c ∈ l, isC c = true) → Valid (doAll p l)
  | [], _, h, _ => h
  | c :: l, p, h, hc => valid_all (l := l) (valid_do h (hc c (by simp))) (fun x hx => hc x (by simp [hx]))
theorem texts_good : ∀ {l : List Txt} {p q : Sh}, readTexts l p = some q → Rises p → Valid p → Rises q ∧ Valid q
  | [], p, q, h, h1, h2 => by
    injection h with h
    subst h
    exact ⟨h1, h2⟩
  | x :: l, p, q, h, h1, h2 => by
    rw [readTexts] at h
    split at h
    · cases h
    · rename_i c hc
      exact texts_good h (rises_all h1) (valid_all h2 (readC_is hc))
/-- How many bytes changes cost, at most. -/
def costC : List Chn → Nat
  | [] => 0
  | c :: l => c.key.length + c.val.length + 100 + costC l
theorem text_len : ∀ {l : List Chn}, (∀ c ∈ l, isC c = true) → (textC l).length ≤ costC l
  | [], _ => Nat.le_refl _
  | c :: l, h => by
    have ih := text_len (l := l) (fun x hx => h x (by simp [hx]))
    have hc := chT_len (h c (by simp))
    obtain ⟨h1, h2, h3, h4⟩ := (isC_iff c).1 (h c (by simp))
    have hs := strand_length (chT c)
    have hi : (Lib.itoa ((chT c).length : Int)).length ≤ 20 := itoa_len (by unfold inI64; omega)
    have e : (textC (c :: l)).length = (strandL (chT c)).length + (textC l).length := by simp [textC, tieL]
    rw [e, costC]
    omega
structure SClean (s : RS) (L : LS) (b : Txt) (recs : List Txt) (p : Sh) : Prop where
  led : Clean s L b recs
  has : readTexts (b :: recs) [] = some p
theorem SClean.good {s : RS} {L : LS} {b : Txt} {recs : List Txt} {p : Sh} (h : SClean s L b recs p) : Rises p ∧ Valid p := texts_good h.has List.Pairwise.nil (fun _ h => by cases h)
theorem all_is {l : List Chn} (h : ∀ c ∈ l, isC c = true) : ¬ l.all isC = false := by
  have : l.all isC = true := List.all_eq_true.2 h
  rw [this]
  decide
theorem SClean.more {b : Txt} {recs : List Txt} {p : Sh} (h : readTexts (b :: recs) [] = some p) {l : List Chn} (hc : ∀ c ∈ l, isC c = true) (hl : l.length ≤ 4096) (ht : (textC l).length ≤ maxKnot) : readTexts (b :: (recs ++ [textC l])) [] = some (doAll p l) := by
  rw [← List.cons_append, texts_app, h]
  simp only
  rw [readTexts, readC_text hc hl ht]
  rfl
theorem SClean.commit {s : RS} {L : LS} {b : Txt} {recs : List Txt} {p : Sh} (h : SClean s L b recs p) {l : List Chn} (hc : ∀ c ∈ l, isC c = true) (hne : l ≠ []) (hl : l.length ≤ 4096) (hb : costC l ≤ 500000) (hf : (costC l : Int) + 140 ≤ s.free) (hr : recs.length < 100000) :
    (∃ s' L', commitM s L p l = (s', L', doAll p l, 0) ∧ SClean s' L' b (recs ++ [textC l]) (doAll p l) ∧ L'.epoch = L.epoch ∧ L'.recs = L.recs + 1 ∧ s'.room = s.room ∧ s'.used ≤ s.used + costC l + 140 ∧ (s.left = -1 → s'.left = -1)) ∨
    (s.left ≠ -1 ∧ ∃ s' L', commitM s L p l = (s', L', p, 30) ∧ L'.broken = true ∧ Torn s' L.epoch b recs b (recs ++ [textC l]) ∧ readTexts (b :: (recs ++ [textC l])) [] = some (doAll p l) ∧ s'.room = s.room ∧ s'.used ≤ s.used + costC l + 140) := by
  have htl := text_len hc
  have hm := SClean.more h.has hc hl (by unfold maxKnot; omega)
  have e : commitM s L p l = if (addM s L (textC l)).2.2 = 0 then ((addM s L (textC l)).1, (addM s L (textC l)).2.1, doAll p l, 0) else ((addM s L (textC l)).1, (addM s L (textC l)).2.1, p, (addM s L (textC l)).2.2) := by
    unfold commitM
    rw [if_neg (all_is hc), if_neg hne, if_neg (by omega)]
  rcases h.led.add (textC l) (by omega) (by omega) hr with ⟨s', L', ha, hcl, t1, t2, t3, t4, t5, t6⟩ | ⟨hn, s', L', ha, hb', ht, t4, t5⟩
  · left
    rw [ha, if_pos rfl] at e
    exact ⟨s', L', e, ⟨hcl, hm⟩, t2, t3, t4, by omega, t6⟩
  · right
    rw [ha, if_neg (show ¬ ((30 : Int) = 0) by decide)] at e
    exact ⟨hn, s', L', e, hb', ht, hm, t4, by omega⟩
theorem pack_is {p : Sh} (h : Valid p) : ∀ c ∈ packC p, isC c = true := by
  intro c hc
  obtain ⟨a, ha, rfl⟩ := List.mem_map.1 hc
  exact h a ha
theorem SClean.pack {s : RS} {L : LS} {b : Txt} {recs : List Txt} {p : Sh} (h : SClean s L b recs p) (hl : p.length ≤ 4096) (hb : costC (packC p) ≤ 500000) (hf : (costC (packC p) : Int) + 140 ≤ s.free) (he : L.epoch < 1000000) :
    (∃ s' L', packM s L p = (s', L', 0) ∧ SClean s' L' (textC (packC p)) [] p ∧ L'.epoch = L.epoch + 1 ∧ L'.recs = 0 ∧ s'.room = s.room ∧ s'.used ≤ s.used + costC (packC p) + 140 ∧ (s.left = -1 → s'.left = -1)) ∨
    (s.left ≠ -1 ∧ ∃ s' L', packM s L p = (s', L', 30) ∧ L'.broken = true ∧ Torn s' (L.epoch + 1) b recs (textC (packC p)) [] ∧ readTexts [textC (packC p)] [] = some p ∧ s'.room = s.room ∧ s'.used ≤ s.used + costC (packC p) + 140) := by
  obtain ⟨hri, hva⟩ := h.good
  have hc := pack_is hva
  have htl := text_len hc
  have hm : readTexts [textC (packC p)] [] = some p := by
    rw [readTexts, readC_text hc (by unfold packC; rw [List.length_map]; exact hl) (by unfold maxKnot; omega)]
    simp only
    rw [do_pack hri]
    rfl
  have e : packM s L p = baseM s L (textC (packC p)) := by
    unfold packM
    rw [if_neg (by omega)]
  rcases h.led.base (textC (packC p)) (by omega) (by omega) he with ⟨s', L', ha, hcl, t1, t2, t3, t4, t5, t6⟩ | ⟨hn, s', L', ha, hb', ht, t4, t5⟩
  · left
    rw [ha] at e
    exact ⟨s', L', e, ⟨hcl, hm⟩, t2, t3, t4, by omega, t6⟩
  · right
    rw [ha] at e
    exact ⟨hn, s', L', e, hb', ht, hm, t4, by omega⟩
/-- A new shelf. -/
theorem shelf_new (room : Int) (h0 : 140 ≤ room) (h1 : room ≤ 4194304) :
    ∃ s' L, openM (RS.new room) = (s', 0) ∧ SClean s' L [] [] [] ∧ openOf (tapeOf (RS.new room) 0) (tapeOf (RS.new room) 1) = L ∧ pickC (tapeOf (RS.new room) 0) (tapeOf (RS.new room) 1) = (0, [], [], 0) ∧ L.epoch = 1 ∧ L.recs = 0 ∧ s'.left = -1 ∧ s'.room = room ∧ s'.used ≤ 140 := by
  obtain ⟨s1, L1, o1, c1, f1, p1, e1, t1, r1, l1, m1, u1⟩ := new_open room h0 h1
  exact ⟨s1, L1, o1, ⟨c1, rfl⟩, f1, p1, e1, r1, l1, m1, u1⟩
end Go.Proofs.YtopajmbblemopaaGreatDoor
