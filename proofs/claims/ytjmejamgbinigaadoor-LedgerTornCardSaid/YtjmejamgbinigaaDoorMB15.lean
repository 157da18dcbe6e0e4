/-
  Lemmas, joined of the texts L5 L6 LO L7 L8 LB L9 LA.
-/
import Derived.Test.YtjmejamgbinigaaDoorMB14
import Derived.Shelf.Abstract
import Derived.Deep.RegionHeld
namespace Go.Proofs.YtjmejamgbinigaaDoor
set_option linter.unusedVariables false
set_option linter.unusedSimpArgs false
open Go.RowKit Go.Proofs.YtjmejamgbinigaaDoor.XPg
/-- The first error. -/
def firstE : List Int → Int
  | [] => 0
  | e :: l => if e = 0 then firstE l else e
/-- How many steps were done. -/
def doneN : List Int → Nat
  | [] => 0
  | e :: l => if e = 0 then doneN l + 1 else 1
theorem first_drop : ∀ (es : List Int) (k : Nat), (∀ j, j < k → es[j]? = some 0) → firstE es = firstE (es.drop k) ∧ doneN es = k + doneN (es.drop k)
  | es, 0, _ => by simp
  | [], k + 1, h => by
    have := h 0 (by omega)
    simp at this
  | e :: l, k + 1, h => by
    have h0 := h 0 (by omega)
    simp only [List.getElem?_cons_zero, Option.some.injEq] at h0
    subst h0
    obtain ⟨a, b⟩ := first_drop l k (fun j hj => by have := h (j + 1) (by omega); simpa using this)
    rw [List.drop_succ_cons]
    simp only [firstE, doneN, if_true]
    exact ⟨a, by omega⟩
structure StepsAt (S : Nat → World → Prop) (gb off : Nat) (fs : List (Nat × Array Value)) (es : List Int) : Prop where
  len : es.length = fs.length
  cell : ∀ k w, S k w → ∀ g c, fs[k]? = some (g, c) → w.cell? ⟨gb, off + k, none⟩ = some (.func (.func g) #[] c)
  step : ∀ k g c e, fs[k]? = some (g, c) → es[k]? = some e → ∀ w, S k w → Calls Tryd.prog g c w fun r w' => r = .returned (.int .i64 e) ∧ S (k + 1) w'
  enter : ∀ (k g : Nat) c, fs[k]? = some (g, c) → ∀ args w, (callFunc g args).run Tryd.prog w = .ok (.enter g args) w
set_option maxHeartbeats 800000 in
theorem steps_walk (S : Nat → World → Prop) (gb off cap : Nat) (fs : List (Nat × Array Value)) (es : List Int) (n : Nat) (hn : fs.length = n) (hl : n ≤ 1000) (H : StepsAt S gb off fs es) (w : World) (h0 : S 0 w) :
    Calls Tryd.prog 29 #[.slice (some ⟨gb, off, none⟩) n cap] w fun r w' => r = .returned (.int .i64 (firstE es)) ∧ S (doneN es) w' := by
  have HH := hd H
  have HN := hd hn
  have H0 := hd h0
  clear H hn h0
  go_enter Tryd.func29, Tryd.ntmps29
  go_wp2
  go_loopw [8] (fun i wr => ∃ k : Nat, k ≤ n ∧ i = .int .i64 k ∧ Hd (S k wr) ∧ Hd (∀ j, j < k → es[j]? = some 0)) (fun i _ => n - (RowKit.intOf i).toNat)
  case atStart => exact ⟨0, by omega, rfl, H0, hd (fun j hj => by omega)⟩
  case round =>
    obtain ⟨k, hk, rfl, HS, HZ⟩ := hrel
    by_cases hlt : k < n
    · obtain ⟨g, c, hg⟩ : ∃ g c, fs[k]? = some (g, c) := ⟨_, _, List.getElem?_eq_getElem (by have := HN.out; omega)⟩
      obtain ⟨e, he⟩ : ∃ e, es[k]? = some e := ⟨_, List.getElem?_eq_getElem (by have := HN.out; have := HH.out.len; omega)⟩
      have c0 := HH.out.cell k wr HS.out g c hg
      have HC := hd (HH.out.step k g c e hg he wr HS.out)
      have eg := HH.out.enter k g c hg
      have HE := hd he
      clear he hg
      by_cases h1 : e = 0
      · subst h1
        go_wp2_with (go_at_fn g; refine HC.out.mono ?_; rintro r w1 ⟨rfl, q⟩; have HS1 := hd q; clear q)
        go_roundw
        case rel =>
          refine ⟨k + 1, by omega, by go_num, HS1, hd (fun j hj => ?_)⟩
          rcases Nat.lt_succ_iff_lt_or_eq.1 hj with q | q
          · exact HZ.out j q
          · rw [q]
            exact HE.out
        case measure => simp [RowKit.intOf]; omega
      · have h2 : (e != 0) = true := by simpa using h1
        go_wp2_with (go_at_fn g; refine HC.out.mono ?_; rintro r w1 ⟨rfl, q⟩; have HS1 := hd q; clear q)
        go_ret
        obtain ⟨a, b⟩ := first_drop es k HZ.out
        have hd1 : es.drop k = e :: es.drop (k + 1) := by
          have hlk := (List.getElem?_eq_some_iff.1 HE.out).1
          rw [List.drop_eq_getElem_cons hlk, (List.getElem?_eq_some_iff.1 HE.out).2]
        rw [hd1] at a b
        simp only [firstE, doneN, if_neg h1] at a b
        rw [a, b]
        exact ⟨rfl, HS1.out⟩
    · have hk' : k = n := by omega
      subst hk'
      go_wp2
      go_ret
      obtain ⟨a, b⟩ := first_drop es k HZ.out
      have hd1 : es.drop k = [] := List.drop_eq_nil_of_le (by have := HH.out.len; have := HN.out; omega)
      rw [hd1] at a b
      simp only [firstE, doneN] at a b
      rw [a, b]
      exact ⟨rfl, HS.out⟩
end Go.Proofs.YtjmejamgbinigaaDoor
namespace Go.Proofs.YtjmejamgbinigaaDoor
set_option linter.unusedVariables false
set_option linter.unusedSimpArgs false
open Go.RowKit Go.Proofs.YtjmejamgbinigaaDoor.XPg
theorem res4 {fn : Func} {t u v x : Tmp} (h : fn.results = #[.tmp t, .tmp u, .tmp v, .tmp x]) (tmps : Array Value) (P : Program) (w : World) :
    (results fn tmps).run P w = .ok (.tuple #[tmps.getD t undef, tmps.getD u undef, tmps.getD v undef, tmps.getD x undef]) w := by
  simp [results, h]
theorem open_nil (w : World) : Calls Tryd.prog 12 #[.pointer none] w fun e w' =>
    (e = .returned (.tuple #[.pointer none, .string ⟨#[]⟩, .slice none 0 0, .int .i64 7])) ∧ Below w.heap.size w w' := by
  go_enter Tryd.func12, Tryd.ntmps12
  go_wp2
  refine wp_loop_rounds 1 ?_
  rw [rounds_succ]
  go_wp2_with (go_at_call 24; refine (read_nil _ _).mono ?_; rintro e w1 ⟨rfl, rfl⟩)
  refine bodyPost_ret (res4 rfl _ _ _) rfl ?_
  refine ⟨rfl, ?_⟩
  exact (((Below.refl w.heap.size w).alloc (Nat.le_refl _) _).alloc (by simp) _).alloc (by simp; omega) _
theorem mkclr_walk (tb rb : Option Addr) (t : Int) (w : World) :
    Calls Tryd.prog 26 #[.int .i64 t, .pointer tb, .pointer rb] w fun e w' =>
      e = .returned (.func (.func 27) #[] #[.pointer tb, .pointer (some ⟨w.heap.size, 0, none⟩), .pointer rb]) ∧ w' = w.alloc (.cells #[.int .i64 t] 3) := by
  have hmf : ∀ (fn : Fn) (first cap : Array Value) (w : World), (Instr.makeFunc fn first cap).run Tryd.prog w = .ok (.func fn first cap) w := fun _ _ _ _ => rfl
  go_enter Tryd.func26, Tryd.ntmps26
  go_wp2
  go_ret
  exact ⟨rfl, rfl⟩
end Go.Proofs.YtjmejamgbinigaaDoor
namespace Go.Proofs.YtjmejamgbinigaaDoor
set_option linter.unusedVariables false
set_option linter.unusedSimpArgs false
open Go.RowKit Go.Proofs.YtjmejamgbinigaaDoor.XPg
/-- The states ahead of each step, as if none had failed. -/
def stAt (s : RS) : List (RS → RS × Int) → Nat → RS
  | _, 0 => s
  | [], _ + 1 => s
  | f :: l, k + 1 => stAt (f s).1 l k
def errsOf (s : RS) : List (RS → RS × Int) → List Int
  | [] => []
  | f :: l => (f s).2 :: errsOf (f s).1 l
def tapeOf (s : RS) (t : Int) : Txt := s.safe t ++ s.rest t
/-- The tape that is taken, and what it has. -/
def pickT (x0 x1 : Txt) : Int := if (scanL x0).1 < (scanL x1).1 then 1 else 0
def pickC (x0 x1 : Txt) : Int × Txt × List Txt × Nat := if (scanL x0).1 < (scanL x1).1 then scanL x1 else scanL x0
def newSteps (x0 x1 : Txt) : List (RS → RS × Int) := [fun s => clr s 0 x0, fun s => clr s 1 x1, fun s => s.write 0 (laidL kBase 1 []), fun s => s.sync 0]
def oldSteps (x0 x1 : Txt) : List (RS → RS × Int) :=
  [fun s => cutTo s (pickT x0 x1) (pickC x0 x1).2.2.2 (if pickT x0 x1 = 0 then x0 else x1).length, fun s => clr s (1 - pickT x0 x1) (if pickT x0 x1 = 0 then x1 else x0)]
def openSteps (x0 x1 : Txt) : List (RS → RS × Int) := if (pickC x0 x1).1 = 0 then newSteps x0 x1 else oldSteps x0 x1
def openOf (x0 x1 : Txt) : LS := ⟨pickT x0 x1, if (pickC x0 x1).1 = 0 then 1 else (pickC x0 x1).1, ((pickC x0 x1).2.2.1.length : Int), false⟩
/-- Opening: the reel behind it, the error. -/
def openM (s : RS) : RS × Int :=
  if s.dead = true then (s, 30)
  else (stAt s (openSteps (tapeOf s 0) (tapeOf s 1)) (doneN (errsOf s (openSteps (tapeOf s 0) (tapeOf s 1)))), firstE (errsOf s (openSteps (tapeOf s 0) (tapeOf s 1))))
theorem errs_length : ∀ (l : List (RS → RS × Int)) (s : RS), (errsOf s l).length = l.length
  | [], _ => rfl
  | f :: l, s => by simp [errsOf, errs_length l]
theorem stAt_succ : ∀ (l : List (RS → RS × Int)) (s : RS) (k : Nat) (f : RS → RS × Int), l[k]? = some f → stAt s l (k + 1) = (f (stAt s l k)).1 ∧ (errsOf s l)[k]? = some (f (stAt s l k)).2
  | [], _, _, _, h => by simp at h
  | g :: l, s, 0, f, h => by
    simp only [List.getElem?_cons_zero, Option.some.injEq] at h
    subst h
    exact ⟨by simp [stAt], by simp [errsOf, stAt]⟩
  | g :: l, s, k + 1, f, h => by
    obtain ⟨a, b⟩ := stAt_succ l (g s).1 k f (by simpa using h)
    exact ⟨a, by
      show (errsOf (g s).1 l)[k]? = _
      exact b⟩
theorem scanGo_facts : ∀ (f N : Nat) (s : Txt) (e : Int) (b : Txt) (l : List Txt) (r : Nat), r ≤ N → 0 ≤ e → e ≤ topEpoch → l.length + s.length ≤ N →
    0 ≤ (scanGo f N s e b l r).1 ∧ (scanGo f N s e b l r).1 ≤ topEpoch ∧ (scanGo f N s e b l r).2.2.1.length ≤ N ∧ (scanGo f N s e b l r).2.2.2 ≤ N
  | 0, N, s, e, b, l, r, hr, h0, h1, hl => ⟨h0, h1, by simp only [scanGo]; omega, hr⟩
  | f + 1, N, s, e, b, l, r, hr, h0, h1, hl => by
    rw [scanGo]
    cases hq : readL s with
    | none => exact ⟨h0, h1, by simp only; omega, hr⟩
    | some p =>
      obtain ⟨⟨k, n, t⟩, s'⟩ := p
      have hlen := read_len hq
      simp only
      split
      · rename_i hc
        exact scanGo_facts f N s' n t l (N - s'.length) (by omega) (by omega) hc.2.2.2 (by omega)
      · split
        · exact scanGo_facts f N s' e b (l ++ [t]) (N - s'.length) (by omega) h0 h1 (by simp; omega)
        · exact ⟨h0, h1, by simp only; omega, hr⟩
theorem scanL_facts (s : Txt) : 0 ≤ (scanL s).1 ∧ (scanL s).1 ≤ topEpoch ∧ (scanL s).2.2.1.length ≤ s.length ∧ (scanL s).2.2.2 ≤ s.length :=
  scanGo_facts _ _ _ _ _ _ _ (by omega) (by omega) (by decide) (by simp)
end Go.Proofs.YtjmejamgbinigaaDoor
namespace Go.Proofs.YtjmejamgbinigaaDoor
set_option linter.unusedVariables false
set_option linter.unusedSimpArgs false
open Go.RowKit Go.Proofs.YtjmejamgbinigaaDoor.XPg
theorem open_dead (b : Nat) (s : RS) (fp : List Nat) (w : World) (hR : ReelAt w b s fp) (hd0 : s.dead = true) :
    Calls Tryd.prog 12 #[.pointer (some ⟨b, 0, none⟩)] w fun e w' => e = .returned (.tuple #[.pointer none, .string ⟨#[]⟩, .slice none 0 0, .int .i64 30]) ∧ Below w.heap.size w w' := by
  have HR : Hd (∀ w1, Below w.heap.size w w1 → Calls Tryd.prog 24 #[.pointer (some ⟨b, 0, none⟩), .int .i64 0] w1 fun e w' => e = .returned (.tuple #[.string (str []), .int .i64 30]) ∧ Below w.heap.size w w') := by
    refine hd fun w1 hb => ?_
    refine (read_any b 0 s fp w1 (hR.chg (Chg.of_below hb (fun _ => False)) (fun _ _ q => q))).mono ?_
    rintro e w' ⟨rfl, n, rfl⟩
    have hr : s.read 0 = ([], 30) := by unfold RS.read; rw [if_neg (by omega), if_pos hd0]
    rw [hr]
    exact ⟨rfl, hb.trans ⟨rfl, rfl, rfl, Nat.le_refl _, fun _ _ => rfl⟩⟩
  have HB : Hd (∀ o1 o2 o3, Below w.heap.size w (((w.alloc o1).alloc o2).alloc o3)) := hd fun o1 o2 o3 => (((Below.refl w.heap.size w).alloc (Nat.le_refl _) _).alloc (by simp) _).alloc (by simp; omega) _
  clear hR hd0
  go_enter Tryd.func12, Tryd.ntmps12
  go_wp2
  refine wp_loop_rounds 1 ?_
  rw [rounds_succ]
  go_wp2_with (go_at_call 24; refine (HR.out _ (HB.out _ _ _)).mono ?_; rintro e w1 ⟨rfl, hb⟩)
  refine bodyPost_ret (res4 rfl _ _ _) rfl ?_
  exact ⟨rfl, hb⟩
end Go.Proofs.YtjmejamgbinigaaDoor
namespace Go.Proofs.YtjmejamgbinigaaDoor
set_option linter.unusedVariables false
set_option linter.unusedSimpArgs false
open Go.RowKit Go.Proofs.YtjmejamgbinigaaDoor.XPg Go.Proofs.YtjmejamgbinigaaDoorW.PrintWords Go.Proofs.YtjmejamgbinigaaDoorW.PrintLast
theorem scan_call (x : ByteArray) (w : World) (hG : Gl w) (hx : x.size ≤ 4294967000) :
    Calls Tryd.prog 25 #[.string x] w fun e w' => ∃ v, e = .returned (.agg #[.int .i64 (scanL (bsL x)).1, .string (str (scanL (bsL x)).2.1), v, .int .i64 ((scanL (bsL x)).2.2.2 : Nat)]) ∧
      Kd.R Kd.string 9 w' w.heap.size (fun _ => True) v ((scanL (bsL x)).2.2.1.map str) ∧ Below w.heap.size w w' :=
  ledger_scan.calls (3 * x.size + 10) x _ _ _ _ w (scan_eq x _ hx (Nat.le_refl _)) hG
theorem R_chg {α : Type} {d : Kd α} {e base : Nat} {ok : Nat → Prop} {S : Nat → Prop} {w w1 : World} {v : Value} {xs : List α} (h : d.R e w base ok v xs) (c : Chg S w w1) (hs : ∀ k, ok k → ¬ S k) : d.R e w1 base ok v xs :=
  Kd.R_step h (fun k ho hk => c.block k hk (hs k ho))
end Go.Proofs.YtjmejamgbinigaaDoor
namespace Go.Proofs.YtjmejamgbinigaaDoor
set_option linter.unusedVariables false
set_option linter.unusedSimpArgs false
open Go.RowKit
theorem Blk.below {w w' : World} {b : Nat} {cs : List Value} {T : TypeId} (h : Blk w b cs T) (k : Below w.heap.size w w') : Blk w' b cs T := h.chg (Chg.of_below k (fun _ => False)) (fun q => q)
/-- The world behind a round. -/
def roundW (w2 : World) (t h i j : Nat) (x a0 a1 a2 a3 : Value) : World := ((((w2.setCell ⟨t, i, none⟩ x).setCell ⟨h, j, none⟩ a0).setCell ⟨h, j + 1, none⟩ a1).setCell ⟨h, j + 2, none⟩ a2).setCell ⟨h, j + 3, none⟩ a3
theorem round_blks (w2 : World) (r t h i j : Nat) (x a0 a1 a2 a3 : Value) (hrt : r ≠ t) (hrh : r ≠ h) (hth : t ≠ h) (csr cst csh : List Value) (Tr Tt Th : TypeId)
    (br : Blk w2 r csr Tr) (bt' : Blk w2 t cst Tt) (bh : Blk w2 h csh Th) :
    Blk (roundW w2 t h i j x a0 a1 a2 a3) r csr Tr ∧ Blk (roundW w2 t h i j x a0 a1 a2 a3) t (cst.set i x) Tt ∧
    Blk (roundW w2 t h i j x a0 a1 a2 a3) h ((((csh.set j a0).set (j + 1) a1).set (j + 2) a2).set (j + 3) a3) Th ∧
    Chg (fun k => k = t ∨ k = h) w2 (roundW w2 t h i j x a0 a1 a2 a3) := by
  refine ⟨?_, ?_, ?_, ?_⟩
  · exact ((((br.other hrt x).other hrh a0).other hrh a1).other hrh a2).other hrh a3
  · exact ((((bt'.set i x).other hth a0).other hth a1).other hth a2).other hth a3
  · exact ((((bh.other (fun q => hth q.symm) x).set j a0).set (j + 1) a1).set (j + 2) a2).set (j + 3) a3
  · exact (((((Chg.refl _ w2).setCell (.inl (.inl rfl)) x).setCell (.inl (.inr rfl)) a0).setCell (.inl (.inr rfl)) a1).setCell (.inl (.inr rfl)) a2).setCell (.inl (.inr rfl)) a3
end Go.Proofs.YtjmejamgbinigaaDoor
namespace Go.Proofs.YtjmejamgbinigaaDoor
set_option linter.unusedVariables false
set_option linter.unusedSimpArgs false
open Go.RowKit Go.Proofs.YtjmejamgbinigaaDoor.XPg Go.Proofs.YtjmejamgbinigaaDoorW.PrintWords Go.Proofs.YtjmejamgbinigaaDoorW.PrintLast
theorem RPost.belowAll {w0 w w' : World} {b : Nat} {s : RS} {fp : List Nat} (hb : Below w0.heap.size w0 w) (hf : ∀ k ∈ fp, w0.heap.size ≤ k) (h : RPost w b fp s w') : Below w0.heap.size w0 w' := by
  obtain ⟨fp', hR, hC, hF⟩ := h
  exact hb.trans (hC.below hb.size hf)
/-- The row of functions that steps is handed. -/
def newFs (rb tb k0 k1 : Nat) : List (Nat × Array Value) :=
  [(27, #[.pointer (some ⟨tb, 0, none⟩), .pointer (some ⟨k0, 0, none⟩), .pointer (some ⟨rb, 0, none⟩)]),
   (27, #[.pointer (some ⟨tb, 0, none⟩), .pointer (some ⟨k1, 0, none⟩), .pointer (some ⟨rb, 0, none⟩)]),
   (30, #[.pointer (some ⟨rb, 0, none⟩)]), (32, #[.pointer (some ⟨rb, 0, none⟩)])]
def oldFs (rb tb cb t0 k1 : Nat) : List (Nat × Array Value) :=
  [(33, #[.pointer (some ⟨cb, 0, none⟩), .pointer (some ⟨tb, 0, none⟩), .pointer (some ⟨t0, 0, none⟩), .pointer (some ⟨rb, 0, none⟩)]),
   (27, #[.pointer (some ⟨tb, 0, none⟩), .pointer (some ⟨k1, 0, none⟩), .pointer (some ⟨rb, 0, none⟩)])]
def CellsOf (W : World) (gb : Nat) (l : List (Nat × Array Value)) : Prop := ∀ k g c, l[k]? = some (g, c) → W.cell? ⟨gb, k, none⟩ = some (.func (.func g) #[] c)
theorem steps_new (w0 W : World) (hG : Gl w0) (hb0 : Below w0.heap.size w0 W) (b rb tb k0 k1 gb cap : Nat) (x0 x1 : ByteArray) (s : RS) (fp : List Nat) (hR : ReelAt W b s fp) (hf : ∀ k ∈ fp, w0.heap.size ≤ k)
    (nr : rb ∉ fp) (nt : tb ∉ fp) (n0 : k0 ∉ fp) (n1 : k1 ∉ fp) (ng : gb ∉ fp)
    (cr : W.cell? ⟨rb, 0, none⟩ = some (.pointer (some ⟨b, 0, none⟩))) (ct0 : W.cell? ⟨tb, 0, none⟩ = some (.string x0)) (ct1 : W.cell? ⟨tb, 1, none⟩ = some (.string x1))
    (ck0 : W.cell? ⟨k0, 0, none⟩ = some (.int .i64 0)) (ck1 : W.cell? ⟨k1, 0, none⟩ = some (.int .i64 1)) (cg : CellsOf W gb (newFs rb tb k0 k1)) :
    Calls Tryd.prog 29 #[.slice (some ⟨gb, 0, none⟩) 4 cap] W fun r w' => r = .returned (.int .i64 (firstE (errsOf s (newSteps (bsL x0) (bsL x1))))) ∧
      RPost W b fp (stAt s (newSteps (bsL x0) (bsL x1)) (doneN (errsOf s (newSteps (bsL x0) (bsL x1))))) w' := by
  refine steps_walk (fun k w => RPost W b fp (stAt s (newSteps (bsL x0) (bsL x1)) k) w) gb 0 cap (newFs rb tb k0 k1) _ 4 rfl (by omega) ⟨?_, ?_, ?_, ?_⟩ W (RPost.self hR)
  · rw [errs_length]; rfl
  · intro k w hS g c hg
    rw [Nat.zero_add]
    exact hS.cell (cg k g c hg) ng
  · intro k g c e hg he w hS
    have hGw := gl_below hG (RPost.belowAll hb0 hf hS)
    have r1 := hS.cell cr nr
    have r2 := hS.cell ct0 nt
    have r3 := hS.cell ct1 nt
    have r4 := hS.cell ck0 n0
    have r5 := hS.cell ck1 n1
    obtain ⟨fp2, hR2, hC, hF⟩ := hS
    have nr2 : rb ∉ fp2 := fun q => (hF rb q).elim nr (fun q => by have := World.block_lt_of_cell? W _ cr; simp only at this; omega)
    match k, hg with
    | 0, hg =>
      obtain ⟨h1, h2⟩ := stAt_succ (newSteps (bsL x0) (bsL x1)) s 0 _ rfl
      rw [h2] at he
      cases he
      cases hg
      rw [h1]
      refine (clr_walk tb k0 rb b 0 x0 _ fp2 w hR2 (.inl rfl) r2 r4 r1).mono ?_
      rintro r w' ⟨rfl, hp⟩
      exact ⟨rfl, RPost.trans hC hF hp⟩
    | 1, hg =>
      obtain ⟨h1, h2⟩ := stAt_succ (newSteps (bsL x0) (bsL x1)) s 1 _ rfl
      rw [h2] at he
      cases he
      cases hg
      rw [h1]
      refine (clr_walk tb k1 rb b 1 x1 _ fp2 w hR2 (.inr rfl) r3 r5 r1).mono ?_
      rintro r w' ⟨rfl, hp⟩
      exact ⟨rfl, RPost.trans hC hF hp⟩
    | 2, hg =>
      obtain ⟨h1, h2⟩ := stAt_succ (newSteps (bsL x0) (bsL x1)) s 2 _ rfl
      rw [h2] at he
      cases he
      cases hg
      rw [h1]
      refine (first_walk rb b _ fp2 w hGw nr2 hR2 r1).mono ?_
      rintro r w' ⟨rfl, hp⟩
      exact ⟨rfl, RPost.trans hC hF hp⟩
    | 3, hg =>
      obtain ⟨h1, h2⟩ := stAt_succ (newSteps (bsL x0) (bsL x1)) s 3 _ rfl
      rw [h2] at he
      cases he
      cases hg
      rw [h1]
      refine (safe_walk rb b _ fp2 w hR2 r1).mono ?_
      rintro r w' ⟨rfl, hp⟩
      exact ⟨rfl, RPost.trans hC hF hp⟩
    | k + 4, hg => simp [newFs] at hg
  · intro k g c hg
    match k, hg with
    | 0, hg => cases hg; exact enters_of Tryd.func27 (by kernel_rfl) rfl
    | 1, hg => cases hg; exact enters_of Tryd.func27 (by kernel_rfl) rfl
    | 2, hg => cases hg; exact enters_of Tryd.func30 (by kernel_rfl) rfl
    | 3, hg => cases hg; exact enters_of Tryd.func32 (by kernel_rfl) rfl
    | k + 4, hg => simp [newFs] at hg
theorem steps_old (w0 W : World) (hb0 : Below w0.heap.size w0 W) (b rb tb cb t0 k1 gb cap : Nat) (x0 x1 : ByteArray) (t : Int) (ht : t = 0 ∨ t = 1) (n : Nat) (s : RS) (fp : List Nat) (hR : ReelAt W b s fp)
    (nr : rb ∉ fp) (nt : tb ∉ fp) (n0 : t0 ∉ fp) (n1 : k1 ∉ fp) (ng : gb ∉ fp) (nc : cb ∉ fp) (hs0 : x0.size ≤ 4294967000) (hs1 : x1.size ≤ 4294967000)
    (cr : W.cell? ⟨rb, 0, none⟩ = some (.pointer (some ⟨b, 0, none⟩))) (ct0 : W.cell? ⟨tb, 0, none⟩ = some (.string x0)) (ct1 : W.cell? ⟨tb, 1, none⟩ = some (.string x1)) (cc : W.cell? ⟨cb, 3, none⟩ = some (.int .i64 n))
    (ck0 : W.cell? ⟨t0, 0, none⟩ = some (.int .i64 t)) (ck1 : W.cell? ⟨k1, 0, none⟩ = some (.int .i64 (1 - t))) (cg : CellsOf W gb (oldFs rb tb cb t0 k1)) (l : List (RS → RS × Int))
    (hl : l = [fun s => cutTo s t n (if t = 0 then bsL x0 else bsL x1).length, fun s => clr s (1 - t) (if t = 0 then bsL x1 else bsL x0)]) :
    Calls Tryd.prog 29 #[.slice (some ⟨gb, 0, none⟩) 2 cap] W fun r w' => r = .returned (.int .i64 (firstE (errsOf s l))) ∧ RPost W b fp (stAt s l (doneN (errsOf s l))) w' := by
  refine steps_walk (fun k w => RPost W b fp (stAt s l k) w) gb 0 cap (oldFs rb tb cb t0 k1) _ 2 rfl (by omega) ⟨?_, ?_, ?_, ?_⟩ W (by rw [show stAt s l 0 = s by cases l <;> rfl]; exact RPost.self hR)
  · rw [errs_length, hl]; rfl
  · intro k w hS g c hg
    rw [Nat.zero_add]
    exact hS.cell (cg k g c hg) ng
  · intro k g c e hg he w hS
    have r1 := hS.cell cr nr
    have r2 := hS.cell ct0 nt
    have r3 := hS.cell ct1 nt
    have r4 := hS.cell ck0 n0
    have r5 := hS.cell ck1 n1
    have r6 := hS.cell cc nc
    obtain ⟨fp2, hR2, hC, hF⟩ := hS
    match k, hg with
    | 0, hg =>
      obtain ⟨h1, h2⟩ := stAt_succ l s 0 _ (by rw [hl]; rfl)
      rw [h2] at he
      cases he
      cases hg
      rw [h1]
      rcases ht with rfl | rfl
      · refine (cut_walk cb tb t0 rb b 0 n x0 _ fp2 w hR2 (.inl rfl) r6 r2 r4 r1 hs0).mono ?_
        rintro r w' ⟨rfl, hp⟩
        rw [if_pos rfl, bs_size]
        exact ⟨rfl, RPost.trans hC hF hp⟩
      · refine (cut_walk cb tb t0 rb b 1 n x1 _ fp2 w hR2 (.inr rfl) r6 r3 r4 r1 hs1).mono ?_
        rintro r w' ⟨rfl, hp⟩
        rw [if_neg (by decide), bs_size]
        exact ⟨rfl, RPost.trans hC hF hp⟩
    | 1, hg =>
      obtain ⟨h1, h2⟩ := stAt_succ l s 1 _ (by rw [hl]; rfl)
      rw [h2] at he
      cases he
      cases hg
      rw [h1]
      rcases ht with rfl | rfl
      · refine (clr_walk tb k1 rb b 1 x1 _ fp2 w hR2 (.inr rfl) r3 r5 r1).mono ?_
        rintro r w' ⟨rfl, hp⟩
        exact ⟨rfl, RPost.trans hC hF hp⟩
      · refine (clr_walk tb k1 rb b 0 x0 _ fp2 w hR2 (.inl rfl) r2 r5 r1).mono ?_
        rintro r w' ⟨rfl, hp⟩
        exact ⟨rfl, RPost.trans hC hF hp⟩
    | k + 2, hg => simp [oldFs] at hg
  · intro k g c hg
    match k, hg with
    | 0, hg => cases hg; exact enters_of Tryd.func33 (by kernel_rfl) rfl
    | 1, hg => cases hg; exact enters_of Tryd.func27 (by kernel_rfl) rfl
    | k + 2, hg => simp [oldFs] at hg
end Go.Proofs.YtjmejamgbinigaaDoor
namespace Go.Proofs.YtjmejamgbinigaaDoor
set_option linter.unusedVariables false
set_option linter.unusedSimpArgs false
open Go.RowKit Go.Proofs.YtjmejamgbinigaaDoor.XPg Go.Proofs.YtjmejamgbinigaaDoorW.PrintWords Go.Proofs.YtjmejamgbinigaaDoorW.PrintLast
/-- What Open leaves. -/
def OpenPost (w : World) (b : Nat) (fp : List Nat) (s' : RS) (er : Int) (L : LS) (base : ByteArray) (recs : List ByteArray) (e : Ending) (w' : World) : Prop :=
  ∃ fp', ReelAt w' b s' fp' ∧ Chg (· ∈ fp) w w' ∧ (∀ k ∈ fp', k ∈ fp ∨ w.heap.size ≤ k) ∧
    ((er ≠ 0 ∧ e = .returned (.tuple #[.pointer none, .string ⟨#[]⟩, .slice none 0 0, .int .i64 er])) ∨
      (er = 0 ∧ ∃ lb v B, e = .returned (.tuple #[.pointer (some ⟨lb, 0, none⟩), .string base, v, .int .i64 0]) ∧ w.heap.size ≤ lb ∧ lb ∉ fp' ∧ Blk w' lb (LCells b L) 71 ∧
        w.heap.size ≤ B ∧ Kd.R Kd.string 9 w' B (fun k => B ≤ k ∧ k ∉ fp' ∧ k ≠ lb) v recs))
theorem open_fail {w w' : World} {b : Nat} {fp : List Nat} {s' : RS} {er : Int} {L : LS} {base : ByteArray} {recs : List ByteArray} (h : RPost w b fp s' w') (he : er ≠ 0) :
    OpenPost w b fp s' er L base recs (.returned (.tuple #[.pointer none, .string ⟨#[]⟩, .slice none 0 0, .int .i64 er])) w' := by
  obtain ⟨fp', a, c, f⟩ := h
  exact ⟨fp', a, c, f, .inl ⟨he, rfl⟩⟩
theorem open_done {w W w' : World} {b B : Nat} {fp : List Nat} {s' : RS} {L : LS} {base : ByteArray} {recs : List ByteArray} {v : Value} {ok : Nat → Prop} (hfp : ∀ k ∈ fp, k < w.heap.size) (hb : Below w.heap.size w W) (h : RPost W b fp s' w') (hB : w.heap.size ≤ B)
    (hv : Kd.R Kd.string 9 W B ok v recs) :
    OpenPost w b fp s' 0 L base recs (.returned (.tuple #[.pointer (some ⟨w'.heap.size, 0, none⟩), .string base, v, .int .i64 0])) (w'.alloc (.cells (LCells b L).toArray 71)) := by
  have h' := RPost.below hb h
  obtain ⟨fp', a, c, f⟩ := h
  have hlt := a.lt
  have hs := c.size
  have hs0 := hb.size
  have c0 : Chg (· ∈ fp) w w' := (Chg.of_below hb _).trans c (fun i q => .inl q)
  have ca : Chg (fun _ => False) w' (w'.alloc (.cells (LCells b L).toArray 71)) := (Chg.refl _ w').alloc _
  refine ⟨fp', a.chg ca (fun _ _ q => q), c0.trans ca (fun _ q => q.elim), fun k hk => (f k hk).elim .inl (fun q => .inr (by omega)), .inr ⟨rfl, w'.heap.size, v, B, rfl, by omega, fun q => Nat.lt_irrefl _ (hlt _ q), Blk.new _ _ _, hB, ?_⟩⟩
  have h1 := Kd.R_bound hv
  have h2 : Kd.R Kd.string 9 W B (fun k => B ≤ k ∧ k < W.heap.size) v recs := Kd.R_mono h1 (fun k hk => ⟨hk.2.1, hk.2.2.1⟩)
  have h3 : Kd.R Kd.string 9 w' B (fun k => B ≤ k ∧ k < W.heap.size) v recs := Kd.R_step h2 (fun k hk hk2 => c.block k hk2 (fun q => by have := hfp k q; omega))
  have h4 : Kd.R Kd.string 9 (w'.alloc (.cells (LCells b L).toArray 71)) B (fun k => B ≤ k ∧ k < W.heap.size) v recs := Kd.R_step h3 (fun k hk hk2 => Below.heap_alloc _ _ _ hk2)
  refine Kd.R_mono h4 (fun k hk => ⟨hk.1, fun q => ?_, by omega⟩)
  rcases f k q with q | q
  · have := hfp k q; omega
  · omega
/-- The cells that are read behind the steps. -/
def Behind (w' : World) (rb tb cb : Nat) (b : Nat) (t : Int) (v0 v1 v2 v3 : Value) : Prop :=
  w'.cell? ⟨rb, 0, none⟩ = some (.pointer (some ⟨b, 0, none⟩)) ∧ w'.cell? ⟨tb, 0, none⟩ = some (.int .i64 t) ∧
    w'.cell? ⟨cb, 0, none⟩ = some v0 ∧ w'.cell? ⟨cb, 1, none⟩ = some v1 ∧ w'.cell? ⟨cb, 2, none⟩ = some v2 ∧ w'.cell? ⟨cb, 3, none⟩ = some v3
theorem new1 (W : World) (o : List Value) (T : TypeId) (X : World) (hX : X = W.alloc (.cells o.toArray T)) : Blk X W.heap.size o T := hX ▸ Blk.new W o T
theorem new4 (W : World) (o1 o2 o3 o4 : List Value) (T1 T2 T3 T4 : TypeId) (X : World) (hX : X = (((W.alloc (.cells o1.toArray T1)).alloc (.cells o2.toArray T2)).alloc (.cells o3.toArray T3)).alloc (.cells o4.toArray T4)) :
    Blk X W.heap.size o1 T1 ∧ Blk X (W.heap.size + 1) o2 T2 ∧ Blk X (W.heap.size + 1 + 1) o3 T3 ∧ Blk X (W.heap.size + 1 + 1 + 1) o4 T4 ∧ Below W.heap.size W X := by
  subst hX
  refine ⟨(((Blk.new W o1 T1).alloc _).alloc _).alloc _, ?_, ?_, ?_, ?_⟩
  · have := ((Blk.new (W.alloc (.cells o1.toArray T1)) o2 T2).alloc (.cells o3.toArray T3)).alloc (.cells o4.toArray T4)
    simpa using this
  · have := (Blk.new ((W.alloc (.cells o1.toArray T1)).alloc (.cells o2.toArray T2)) o3 T3).alloc (.cells o4.toArray T4)
    simpa using this
  · have := Blk.new (((W.alloc (.cells o1.toArray T1)).alloc (.cells o2.toArray T2)).alloc (.cells o3.toArray T3)) o4 T4
    simpa using this
  · exact ((((Below.refl W.heap.size W).alloc (Nat.le_refl _) _).alloc (by simp) _).alloc (by simp; omega) _).alloc (by simp; omega) _
theorem old_call (w0 w W : World) (hb0 : Below w0.heap.size w0 w) (hb6 : Below w.heap.size w W) (b : Nat) (s : RS) (fp : List Nat) (hR : ReelAt w b s fp) (x0 x1 : ByteArray) (hs0 : x0.size ≤ 4294967000) (hs1 : x1.size ≤ 4294967000)
    (rb tb : Nat) (J1 : Blk W rb [.pointer (some ⟨b, 0, none⟩)] 25) (J2 : Blk W tb [.string x0, .string x1] 61) (hrb : w.heap.size ≤ rb) (htb : w.heap.size ≤ tb) (t k : Int) (ht : t = 0 ∨ t = 1) (hk : k = 1 - t)
    (v0 v1 v2 : Value) (n : Nat) (l : List (RS → RS × Int)) (hl : l = [fun s => cutTo s t n (if t = 0 then bsL x0 else bsL x1).length, fun s => clr s (1 - t) (if t = 0 then bsL x1 else bsL x0)]) :
    Calls Tryd.prog 29 #[.slice (some ⟨W.heap.size + 1 + 1 + 1, 0, none⟩) 2 2]
      ((((W.alloc (.cells #[.int .i64 t] 3)).alloc (.cells #[v0, v1, v2, .int .i64 n] 63)).alloc (.cells #[.int .i64 k] 3)).alloc
        (.cells #[.func (.func 33) #[] #[.pointer (some ⟨W.heap.size + 1, 0, none⟩), .pointer (some ⟨tb, 0, none⟩), .pointer (some ⟨W.heap.size, 0, none⟩), .pointer (some ⟨rb, 0, none⟩)],
          .func (.func 27) #[] #[.pointer (some ⟨tb, 0, none⟩), .pointer (some ⟨W.heap.size + 1 + 1, 0, none⟩), .pointer (some ⟨rb, 0, none⟩)]] 66))
      fun r w' => r = .returned (.int .i64 (firstE (errsOf s l))) ∧ RPost W b fp (stAt s l (doneN (errsOf s l))) w' ∧ Behind w' rb W.heap.size (W.heap.size + 1) b t v0 v1 v2 (.int .i64 n) := by
  obtain ⟨X, hX⟩ : ∃ X, ((((W.alloc (.cells #[.int .i64 t] 3)).alloc (.cells #[v0, v1, v2, .int .i64 n] 63)).alloc (.cells #[.int .i64 k] 3)).alloc
        (.cells #[.func (.func 33) #[] #[.pointer (some ⟨W.heap.size + 1, 0, none⟩), .pointer (some ⟨tb, 0, none⟩), .pointer (some ⟨W.heap.size, 0, none⟩), .pointer (some ⟨rb, 0, none⟩)],
          .func (.func 27) #[] #[.pointer (some ⟨tb, 0, none⟩), .pointer (some ⟨W.heap.size + 1 + 1, 0, none⟩), .pointer (some ⟨rb, 0, none⟩)]] 66)) = X := ⟨_, rfl⟩
  rw [hX]
  obtain ⟨a1, a2, a3, a4, aB⟩ := new4 W [.int .i64 t] [v0, v1, v2, .int .i64 n] [.int .i64 k] [_, _] 3 63 3 66 X hX.symm
  have j1 := J1.below aB
  have j2 := J2.below aB
  have hlt := hR.lt
  have hsz := hb6.size
  have hno : ∀ g, w.heap.size ≤ g → g ∉ fp := fun g hg q => by have := hlt g q; omega
  have hRX : ReelAt X b s fp := hR.chg (Chg.of_below (hb6.trans (aB.mono hsz)) (fun _ => False)) (fun _ _ q => q)
  refine (steps_old w0 X (hb0.trans ((hb6.trans (aB.mono hsz)).mono hb0.size)) b rb tb (W.heap.size + 1) W.heap.size (W.heap.size + 1 + 1) (W.heap.size + 1 + 1 + 1) 2 x0 x1 t ht n s fp hRX
    (hno _ hrb) (hno _ htb) (hno _ hsz) (hno _ (by omega)) (hno _ (by omega)) (hno _ (by omega)) hs0 hs1 (j1.cell 0) (j2.cell 0) (j2.cell 1) (a2.cell 3) (a1.cell 0) (by rw [← hk]; exact a3.cell 0) ?_ l hl).mono ?_
  · intro i g c hg
    match i, hg with
    | 0, hg => cases hg; exact a4.cell 0
    | 1, hg => cases hg; exact a4.cell 1
    | i + 2, hg => simp [oldFs] at hg
  · rintro r w' ⟨rfl, hp⟩
    exact ⟨rfl, RPost.below aB hp, hp.cell (j1.cell 0) (hno _ hrb), hp.cell (a1.cell 0) (hno _ hsz), hp.cell (a2.cell 0) (hno _ (by show _ ≤ W.heap.size + 1; omega)), hp.cell (a2.cell 1) (hno _ (by show _ ≤ W.heap.size + 1; omega)),
      hp.cell (a2.cell 2) (hno _ (by show _ ≤ W.heap.size + 1; omega)), hp.cell (a2.cell 3) (hno _ (by show _ ≤ W.heap.size + 1; omega))⟩
theorem new_call (w0 w W : World) (hG : Gl w0) (hb0 : Below w0.heap.size w0 w) (hb6 : Below w.heap.size w W) (b : Nat) (s : RS) (fp : List Nat) (hR : ReelAt w b s fp) (hf : ∀ k ∈ fp, w0.heap.size ≤ k) (x0 x1 : ByteArray)
    (rb tb : Nat) (J1 : Blk W rb [.pointer (some ⟨b, 0, none⟩)] 25) (J2 : Blk W tb [.string x0, .string x1] 61) (hrb : w.heap.size ≤ rb) (htb : w.heap.size ≤ tb) (v0 v1 v2 v3 : Value) :
    Calls Tryd.prog 29 #[.slice (some ⟨W.heap.size + 1 + 1 + 1 + 1, 0, none⟩) 4 4]
      (((((W.alloc (.cells #[.int .i64 0] 3)).alloc (.cells #[v0, v1, v2, v3] 63)).alloc (.cells #[.int .i64 0] 3)).alloc (.cells #[.int .i64 1] 3)).alloc
        (.cells #[.func (.func 27) #[] #[.pointer (some ⟨tb, 0, none⟩), .pointer (some ⟨W.heap.size + 1 + 1, 0, none⟩), .pointer (some ⟨rb, 0, none⟩)],
          .func (.func 27) #[] #[.pointer (some ⟨tb, 0, none⟩), .pointer (some ⟨W.heap.size + 1 + 1 + 1, 0, none⟩), .pointer (some ⟨rb, 0, none⟩)],
          .func (.func 30) #[] #[.pointer (some ⟨rb, 0, none⟩)], .func (.func 32) #[] #[.pointer (some ⟨rb, 0, none⟩)]] 66))
      fun r w' => r = .returned (.int .i64 (firstE (errsOf s (newSteps (bsL x0) (bsL x1))))) ∧ RPost W b fp (stAt s (newSteps (bsL x0) (bsL x1)) (doneN (errsOf s (newSteps (bsL x0) (bsL x1))))) w' ∧ Behind w' rb W.heap.size (W.heap.size + 1) b 0 v0 v1 v2 v3 := by
  obtain ⟨Y, hY⟩ : ∃ Y, ((((W.alloc (.cells #[.int .i64 0] 3)).alloc (.cells #[v0, v1, v2, v3] 63)).alloc (.cells #[.int .i64 0] 3)).alloc (.cells #[.int .i64 1] 3)) = Y := ⟨_, rfl⟩
  rw [hY]
  obtain ⟨a1, a2, a3, a4, aB⟩ := new4 W [.int .i64 0] [v0, v1, v2, v3] [.int .i64 0] [.int .i64 1] 3 63 3 3 Y hY.symm
  have hYs : Y.heap.size = W.heap.size + 1 + 1 + 1 + 1 := by rw [← hY]; simp
  obtain ⟨X, hX⟩ : ∃ X, (Y.alloc
        (.cells #[.func (.func 27) #[] #[.pointer (some ⟨tb, 0, none⟩), .pointer (some ⟨W.heap.size + 1 + 1, 0, none⟩), .pointer (some ⟨rb, 0, none⟩)],
          .func (.func 27) #[] #[.pointer (some ⟨tb, 0, none⟩), .pointer (some ⟨W.heap.size + 1 + 1 + 1, 0, none⟩), .pointer (some ⟨rb, 0, none⟩)],
          .func (.func 30) #[] #[.pointer (some ⟨rb, 0, none⟩)], .func (.func 32) #[] #[.pointer (some ⟨rb, 0, none⟩)]] 66)) = X := ⟨_, rfl⟩
  rw [hX]
  have aX : Below Y.heap.size Y X := by rw [← hX]; exact (Below.refl Y.heap.size Y).alloc (Nat.le_refl _) _
  have a5 := new1 Y [_, _, _, _] 66 X hX.symm
  rw [hYs] at a5
  have aBX : Below W.heap.size W X := aB.trans (aX.mono aB.size)
  have j1 := J1.below aBX
  have j2 := J2.below aBX
  have a1' := a1.below aX
  have a2' := a2.below aX
  have a3' := a3.below aX
  have a4' := a4.below aX
  have hlt := hR.lt
  have hsz := hb6.size
  have hno : ∀ g, w.heap.size ≤ g → g ∉ fp := fun g hg q => by have := hlt g q; omega
  have hRX : ReelAt X b s fp := hR.chg (Chg.of_below (hb6.trans (aBX.mono hsz)) (fun _ => False)) (fun _ _ q => q)
  refine (steps_new w0 X hG (hb0.trans ((hb6.trans (aBX.mono hsz)).mono hb0.size)) b rb tb (W.heap.size + 1 + 1) (W.heap.size + 1 + 1 + 1) (W.heap.size + 1 + 1 + 1 + 1) 4 x0 x1 s fp hRX hf
    (hno _ hrb) (hno _ htb) (hno _ (by omega)) (hno _ (by omega)) (hno _ (by omega)) (j1.cell 0) (j2.cell 0) (j2.cell 1) (a3'.cell 0) (a4'.cell 0) ?_).mono ?_
  · intro i g c hg
    match i, hg with
    | 0, hg => cases hg; exact a5.cell 0
    | 1, hg => cases hg; exact a5.cell 1
    | 2, hg => cases hg; exact a5.cell 2
    | 3, hg => cases hg; exact a5.cell 3
    | i + 4, hg => simp [newFs] at hg
  · rintro r w' ⟨rfl, hp⟩
    exact ⟨rfl, RPost.below aBX hp, hp.cell (j1.cell 0) (hno _ hrb), hp.cell (a1'.cell 0) (hno _ hsz), hp.cell (a2'.cell 0) (hno _ (by show _ ≤ W.heap.size + 1; omega)), hp.cell (a2'.cell 1) (hno _ (by show _ ≤ W.heap.size + 1; omega)),
      hp.cell (a2'.cell 2) (hno _ (by show _ ≤ W.heap.size + 1; omega)), hp.cell (a2'.cell 3) (hno _ (by show _ ≤ W.heap.size + 1; omega))⟩
end Go.Proofs.YtjmejamgbinigaaDoor
