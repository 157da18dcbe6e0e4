/-
  Lemmas, joined of the texts LOk QL0 XRp0 XRp1 XRp KP QL1 QL2 PW1 XRs0 XRs1.
-/
import Derived.Test.YtjmejamgbinigaaGreatDoorMB16
import Derived.Test.YtjmejamgbinigaaGreatDoorMB14
import Derived.Test.YtjmejamgbinigaaGreatDoorMP0
import Derived.Test.YtjmejamgbinigaaGreatDoorProg
import Derived.Test.YtjmejamgbinigaaGreatDoorMB1
import Derived.Below
import Derived.Deep.Draws
import Derived.Deep.AppendLies
import Derived.Maps.AppendAt
import Derived.OwnWalk
import Derived.Laws.BytesArg
import Derived.Laws.MakeOwn
import Derived.Laws.OwnMore
import Derived.Deep.OwnRows
import Derived.Tactics
import Derived.Lib.ConvBytes
import Derived.Laws.Slices
import Derived.WalkKit
import Derived.KernelRfl
import Derived.RowKit3
import Derived.Deep.LoopGhost
import Derived.Deep.QuietTactic
import Derived.BigQuiet
import Derived.WideLaws
import Derived.Deep.DeepCutAuto
import Derived.Deep.CutBlock
import Derived.Deep.RegionHeld3
import Derived.Laws.Rows
import Derived.Lib.AppendStr
import Derived.ArgAppend
import Derived.Laws.IdiomCopy
import Derived.OrdersHeld
import Derived.Laws.BitsLemmas
import Derived.RowKit
import Derived.Test.YtjmejamgbinigaaGreatDoorMB13
import Derived.Test.YtjmejamgbinigaaGreatDoorMB12
import Derived.Test.YtjmejamgbinigaaGreatDoorWWords
import Derived.Test.YtjmejamgbinigaaGreatDoorWLast
import Derived.Test.YtjmejamgbinigaaGreatDoorWTab
import Derived.Test.YtjmejamgbinigaaGreatDoorWFour
import Derived.Test.YtjmejamgbinigaaGreatDoorWQPut
import Derived.Test.YtjmejamgbinigaaGreatDoorWApart
import Derived.Test.YtjmejamgbinigaaGreatDoorWArr
import Derived.Test.YtjmejamgbinigaaGreatDoorWZeros
import Derived.Test.YtjmejamgbinigaaGreatDoorWFoot
import Derived.Test.YtjmejamgbinigaaGreatDoorWKept
import Derived.Test.YtjmejamgbinigaaGreatDoorWShare
import Derived.Test.YtjmejamgbinigaaGreatDoorWN
import Derived.Test.YtjmejamgbinigaaGreatDoorWFootNe
import Derived.Test.YtjmejamgbinigaaGreatDoorWAt
import Derived.Test.YtjmejamgbinigaaGreatDoorWEqStruct
import Derived.Test.YtjmejamgbinigaaGreatDoorWRepsOne
import Derived.Test.YtjmejamgbinigaaGreatDoorWInv
import Derived.Test.YtjmejamgbinigaaGreatDoorWInvWords
import Derived.Test.YtjmejamgbinigaaGreatDoorWGuard
import Derived.Test.YtjmejamgbinigaaGreatDoorWNEv
import Derived.Test.YtjmejamgbinigaaGreatDoorWMore
import Derived.Deep.RegionHeld
namespace Go.Proofs.YtjmejamgbinigaaGreatDoor
set_option linter.unusedVariables false
set_option linter.unusedSimpArgs false
open Go.RowKit
structure LOk (L : LS) (k : Nat) : Prop where
  tape : L.tape = 0 ∨ L.tape = 1
  epoch0 : 0 ≤ L.epoch
  epoch1 : L.epoch ≤ 4611686018427387904 + k
  recs0 : 0 ≤ L.recs
  recs1 : L.recs ≤ 5000000 + k
theorem LOk.ok {L : LS} {k : Nat} (h : LOk L k) (hk : k ≤ 1000) : L.Ok :=
  ⟨h.tape, h.epoch0, by have := h.epoch1; omega, h.recs0, by have := h.recs1; omega⟩
theorem LOk.later {L : LS} {k : Nat} (h : LOk L k) : LOk L (k + 1) :=
  ⟨h.tape, h.epoch0, by have := h.epoch1; omega, h.recs0, by have := h.recs1; omega⟩
theorem LOk.of_keeps {L L' : LS} {k : Nat} (h : LOk L k) (e : L'.tape = L.tape ∧ L'.epoch = L.epoch ∧ L'.recs = L.recs) : LOk L' k :=
  ⟨by rw [e.1]; exact h.tape, by rw [e.2.1]; exact h.epoch0, by rw [e.2.1]; exact h.epoch1, by rw [e.2.2]; exact h.recs0, by rw [e.2.2]; exact h.recs1⟩
theorem LOk.add {L : LS} {k : Nat} (h : LOk L k) (s : RS) (q : Txt) : LOk (addM s L q).2.1 (k + 1) := by
  unfold addM
  split
  · exact h.later
  · have h2 := h.of_keeps (wr_keeps s L L.tape (laidL kRec (L.recs + 1) q))
    split
    · refine ⟨h2.tape, h2.epoch0, h2.later.epoch1, ?_, ?_⟩
      · have := h2.recs0
        show (0 : Int) ≤ (wr s L L.tape (laidL kRec (L.recs + 1) q)).2.1.recs + 1
        omega
      · have := h2.recs1
        show (wr s L L.tape (laidL kRec (L.recs + 1) q)).2.1.recs + 1 ≤ 5000000 + ((k + 1 : Nat) : Int)
        omega
    · exact h2.later
theorem LOk.base {L : LS} {k : Nat} (h : LOk L k) (s : RS) (q : Txt) : LOk (baseM s L q).2.1 (k + 1) := by
  unfold baseM
  split
  · exact h.later
  · have h2 := h.of_keeps (wr_keeps s L (1 - L.tape) (laidL kBase (L.epoch + 1) q))
    split
    · exact h2.later
    · split
      · exact ⟨h2.tape, h2.epoch0, h2.later.epoch1, h2.recs0, h2.later.recs1⟩
      · have t := h.tape
        have e0 := h.epoch0
        have e1 := h.epoch1
        refine ⟨?_, ?_, ?_, ?_, ?_⟩
        · show 1 - L.tape = 0 ∨ 1 - L.tape = 1
          omega
        · show 0 ≤ L.epoch + 1
          omega
        · show L.epoch + 1 ≤ 4611686018427387904 + ((k + 1 : Nat) : Int)
          omega
        · show (0 : Int) ≤ 0
          omega
        · show (0 : Int) ≤ 5000000 + ((k + 1 : Nat) : Int)
          omega
theorem openOf_ok {x0 x1 : Txt} (h0 : x0.length ≤ 4194304) (h1 : x1.length ≤ 4194304) (k : Nat) : LOk (openOf x0 x1) k := by
  obtain ⟨a0, a1, a2, -⟩ := scanL_facts x0
  obtain ⟨b0, b1, b2, -⟩ := scanL_facts x1
  unfold topEpoch at a1 b1
  have hc : 0 ≤ (pickC x0 x1).1 ∧ (pickC x0 x1).1 ≤ 4611686018427387904 ∧ (pickC x0 x1).2.2.1.length ≤ 4194304 := by
    unfold pickC
    split
    · exact ⟨b0, b1, by omega⟩
    · exact ⟨a0, a1, by omega⟩
  obtain ⟨c0, c1, c2⟩ := hc
  refine ⟨?_, ?_, ?_, ?_, ?_⟩
  · show pickT x0 x1 = 0 ∨ pickT x0 x1 = 1
    unfold pickT
    split
    · exact .inr rfl
    · exact .inl rfl
  · show 0 ≤ if (pickC x0 x1).1 = 0 then (1 : Int) else (pickC x0 x1).1
    split <;> omega
  · show (if (pickC x0 x1).1 = 0 then (1 : Int) else (pickC x0 x1).1) ≤ 4611686018427387904 + (k : Int)
    split <;> omega
  · show (0 : Int) ≤ ((pickC x0 x1).2.2.1.length : Int)
    omega
  · show ((pickC x0 x1).2.2.1.length : Int) ≤ 5000000 + (k : Int)
    omega
end Go.Proofs.YtjmejamgbinigaaGreatDoor
namespace Go.Proofs.YtjmejamgbinigaaGreatDoor
set_option linter.unusedVariables false
set_option linter.unusedSimpArgs false
open Go.RowKit
theorem RS.Ok.op {s : RS} (h : s.Ok) (t : Int) (f : RS → RS × Int) (hf : ∀ s', s'.Ok → (f s').1.Ok) : (s.op t f).1.Ok := by
  unfold RS.op
  split
  · exact h.begin_ t
  · exact hf _ (h.begin_ t)
theorem RS.Ok.write {s : RS} (h : s.Ok) (t : Int) (q : List UInt8) : (s.write t q).1.Ok := by
  refine h.op t _ fun s' h' => ?_
  unfold RS.write1
  split
  · exact h'
  · rename_i hq
    exact h'.tick.fits (by show (q.length : Int) ≤ s'.free; omega)
theorem RS.Ok.sync {s : RS} (h : s.Ok) (t : Int) : (s.sync t).1.Ok := h.op t _ fun _ h' => h'.tick.joins t
theorem RS.Ok.wipe {s : RS} (h : s.Ok) (t : Int) : (s.wipe t).1.Ok := h.op t _ fun _ h' => h'.tick.clears t
theorem RS.Ok.trim {s : RS} (h : s.Ok) (t n : Int) : (s.trim t n).1.Ok := by
  unfold RS.trim
  split
  · exact h
  · refine h.op t _ fun s' h' => ?_
    unfold RS.trim1
    split
    · exact h'
    · exact h'.tick.trims t _ _
theorem clr_ok {s : RS} (h : s.Ok) (t : Int) (x : Txt) : (clr s t x).1.Ok := by
  unfold clr
  split
  · exact h
  · exact h.wipe t
theorem cutTo_ok {s : RS} (h : s.Ok) (t : Int) (n m : Nat) : (cutTo s t n m).1.Ok := by
  unfold cutTo
  split
  · exact h
  · exact h.trim t _
/-! ### One step behind the other -/
def andThen (p : RS × Int) (f : RS → RS × Int) : RS × Int := if p.2 = 0 then f p.1 else p
theorem andThen_ok {p : RS × Int} {f : RS → RS × Int} (h : p.1.Ok) (hf : ∀ s, s.Ok → (f s).1.Ok) : (andThen p f).1.Ok := by
  unfold andThen
  split
  · exact hf _ h
  · exact h
def runS (s : RS) (l : List (RS → RS × Int)) : RS × Int := (stAt s l (doneN (errsOf s l)), firstE (errsOf s l))
theorem run_nil (s : RS) : runS s [] = (s, 0) := by simp [runS, stAt, errsOf, firstE, doneN]
theorem run_cons (s : RS) (f : RS → RS × Int) (l : List (RS → RS × Int)) : runS s (f :: l) = andThen (f s) (fun s' => runS s' l) := by
  unfold andThen
  by_cases h : (f s).2 = 0
  · rw [if_pos h]
    simp [runS, errsOf, doneN, firstE, stAt, h]
  · rw [if_neg h]
    simp [runS, errsOf, doneN, firstE, stAt, h]
theorem then_assoc (p : RS × Int) (f g : RS → RS × Int) : andThen (andThen p f) g = andThen p (fun s => andThen (f s) g) := by
  unfold andThen
  by_cases h : p.2 = 0 <;> simp [h]
theorem then_done (p : RS × Int) : andThen p (fun s => (s, 0)) = p := by
  unfold andThen
  split
  · rename_i h
    rw [← h]
  · rfl
theorem run_2 (s : RS) (f g : RS → RS × Int) : runS s [f, g] = andThen (f s) g := by
  simp only [run_cons, run_nil, then_done]
theorem run_4 (s : RS) (f g h i : RS → RS × Int) : runS s [f, g, h, i] = andThen (andThen (andThen (f s) g) h) i := by
  simp only [run_cons, run_nil, then_done, then_assoc]
theorem open_dead_m {s : RS} (h : s.dead = true) : openM s = (s, 30) := if_pos h
theorem open_new_m {s : RS} {x0 x1 : Txt} (h : ¬ s.dead = true) (h0 : tapeOf s 0 = x0) (h1 : tapeOf s 1 = x1) (he : (pickC x0 x1).1 = 0) :
    openM s = andThen (andThen (andThen (clr s 0 x0) (fun s => clr s 1 x1)) (fun s => s.write 0 (laidL kBase 1 []))) (fun s => s.sync 0) := by
  unfold openM
  rw [if_neg h, h0, h1]
  unfold openSteps
  rw [if_pos he]
  exact run_4 s (fun s => clr s 0 x0) (fun s => clr s 1 x1) (fun s => s.write 0 (laidL kBase 1 [])) (fun s => s.sync 0)
theorem open_old_m {s : RS} {x0 x1 : Txt} (h : ¬ s.dead = true) (h0 : tapeOf s 0 = x0) (h1 : tapeOf s 1 = x1) (he : ¬ (pickC x0 x1).1 = 0) :
    openM s = andThen (cutTo s (pickT x0 x1) (pickC x0 x1).2.2.2 (if pickT x0 x1 = 0 then x0 else x1).length) (fun s => clr s (1 - pickT x0 x1) (if pickT x0 x1 = 0 then x1 else x0)) := by
  unfold openM
  rw [if_neg h, h0, h1]
  unfold openSteps
  rw [if_neg he]
  exact run_2 s (fun s => cutTo s (pickT x0 x1) (pickC x0 x1).2.2.2 (if pickT x0 x1 = 0 then x0 else x1).length) (fun s => clr s (1 - pickT x0 x1) (if pickT x0 x1 = 0 then x1 else x0))
/-! ### In memory -/
structure QAt (w : World) (qb b gs gf : Nat) (s : RS) (L : LS) : Prop where
  raw : FRaw w b gs gf s.toF
  ok : s.Ok
  blk : Blk w qb (LCells b L) 57
  out : qb ∉ FFoot b gs gf
/-- What a call leaves: the states, and nothing else has changed. -/
structure QPost (w : World) (qb b gs gf : Nat) (s : RS) (L : LS) (w' : World) : Prop where
  at_ : QAt w' qb b gs gf s L
  chg : Chg (fun k => k = qb ∨ k ∈ FFoot b gs gf) w w'
theorem QPost.refl {w : World} {qb b gs gf : Nat} {s : RS} {L : LS} (h : QAt w qb b gs gf s L) : QPost w qb b gs gf s L w := ⟨h, Chg.refl _ _⟩
/-- The reel goes on; the ledger's block stays. -/
theorem QPost.reel {w w1 w2 : World} {qb b gs gf : Nat} {s s' : RS} {L : LS} (h : QPost w qb b gs gf s L w1) (k : FPost w1 b gs gf s'.toF w2) (hok : s'.Ok) : QPost w qb b gs gf s' L w2 :=
  ⟨⟨k.raw, hok, h.at_.blk.chg k.chg h.at_.out, h.at_.out⟩, h.chg.trans k.chg (fun _ hi => .inl (.inr hi))⟩
theorem FRaw.far {w : World} {b gs gf : Nat} {x : FS} (h : FRaw w b gs gf x) {g : Nat} (hg : g ∉ FFoot b gs gf) (k : Nat) (u : Value) : FRaw (w.setCell ⟨g, k, none⟩ u) b gs gf x := by
  have h1 : g ≠ b := fun q => hg (by simp [FFoot, q])
  have h2 : g ≠ gs := fun q => hg (by simp [FFoot, q])
  have h3 : g ≠ gf := fun q => hg (by simp [FFoot, q])
  exact h.chg ((Chg.refl (fun i => i = g) w).setCell (p := ⟨g, k, none⟩) (.inl rfl) u) h1.symm h2.symm h3.symm
/-- A cell of the ledger is set. -/
theorem QPost.set {w w1 : World} {qb b gs gf : Nat} {s : RS} {L L' : LS} (h : QPost w qb b gs gf s L w1) (k : Nat) (u : Value) (hs : (LCells b L).set k u = LCells b L') :
    QPost w qb b gs gf s L' (w1.setCell ⟨qb, k, none⟩ u) :=
  ⟨⟨h.at_.raw.far h.at_.out k u, h.at_.ok, hs ▸ h.at_.blk.set k u, h.at_.out⟩, h.chg.setCell (.inl (.inl rfl)) u⟩
theorem QPost.drawn {w w1 w2 : World} {qb b gs gf : Nat} {s : RS} {L : LS} (h : QPost w qb b gs gf s L w1) (k : Below w1.heap.size w1 w2) : QPost w qb b gs gf s L w2 := by
  have c := Chg.of_below k (fun _ => False)
  exact ⟨⟨h.at_.raw.chg c id id id, h.at_.ok, h.at_.blk.chg c id, h.at_.out⟩, h.chg.trans c (fun _ q => q.elim)⟩
theorem QPost.drewN {w w1 : World} {qb b gs gf : Nat} {s : RS} {L : LS} (h : QPost w qb b gs gf s L w1) (n : Nat) : QPost w qb b gs gf s L (w1.drewN n) := h.drawn ⟨rfl, rfl, rfl, Nat.le_refl _, fun _ _ => rfl⟩
theorem QPost.cells {w w1 : World} {qb b gs gf : Nat} {s : RS} {L : LS} (h : QPost w qb b gs gf s L w1) :
    w1.cell? ⟨qb, 0, none⟩ = some (.pointer (some ⟨b, 0, none⟩)) ∧ w1.cell? ⟨qb, 1, none⟩ = some (.int .i64 L.tape) ∧ w1.cell? ⟨qb, 2, none⟩ = some (.int .i64 L.epoch) ∧ w1.cell? ⟨qb, 3, none⟩ = some (.int .i64 L.recs) ∧ w1.cell? ⟨qb, 4, none⟩ = some (.bool L.broken) :=
  ⟨h.at_.blk.cell 0, h.at_.blk.cell 1, h.at_.blk.cell 2, h.at_.blk.cell 3, h.at_.blk.cell 4⟩
theorem QPost.free {w w1 : World} {qb b gs gf : Nat} {s : RS} {L : LS} (h : QPost w qb b gs gf s L w1) (k : Nat) : w1.frozen? ⟨qb, k, none⟩ = false := h.at_.blk.frozen k
/-! ### What the reel answered -/
section
variable {w0 w : World} {qb b gs gf : Nat} {s : RS} {L : LS}
theorem did_ok (m : Bool) (h : QPost w0 qb b gs gf s L w) :
    Calls Tryz.prog 45 #[.pointer (some ⟨qb, 0, none⟩), .int .i64 0, .bool m] w fun e w' => e = .returned (.int .i64 0) ∧ w = w' := by
  clear h
  go_enter Tryz.func45, Tryz.ntmps45
  go_wp2
  go_ret
  exact ⟨rfl, rfl⟩
theorem did_full : Calls Tryz.prog 45 #[.pointer (some ⟨qb, 0, none⟩), .int .i64 5, .bool true] w fun e w' => e = .returned (.int .i64 5) ∧ w = w' := by
  go_enter Tryz.func45, Tryz.ntmps45
  go_wp2
  go_ret
  exact ⟨rfl, rfl⟩
theorem did_bad (e : Int) (m : Bool) (h : QPost w0 qb b gs gf s L w) (he : e ≠ 0) (hm : m = false ∨ e ≠ 5) :
    Calls Tryz.prog 45 #[.pointer (some ⟨qb, 0, none⟩), .int .i64 e, .bool m] w fun r w' => r = .returned (.int .i64 e) ∧ QPost w0 qb b gs gf s { L with broken := true } w' := by
  have f4 := h.free 4
  have c4 := h.cells.2.2.2.2
  have HQ := hd (h.set (L' := { L with broken := true }) 4 (.bool true) rfl)
  have q1 : (e != 0) = true := by simpa using he
  clear h
  cases m with
  | false =>
    clear hm he
    go_enter Tryz.func45, Tryz.ntmps45
    go_wp2
    go_ret
    exact ⟨rfl, HQ.out⟩
  | true =>
    have q2 : (e == 5) = false := by
      rcases hm with hm | hm
      · cases hm
      · simpa using hm
    clear hm he
    go_enter Tryz.func45, Tryz.ntmps45
    go_wp2
    go_ret
    exact ⟨rfl, HQ.out⟩
end
end Go.Proofs.YtjmejamgbinigaaGreatDoor
namespace Go.Proofs.YtjmejamgbinigaaGreatDoor.XRp
open Go.RowKit Go.Proofs.YtjmejamgbinigaaGreatDoorW.PrintWords Go.Proofs.YtjmejamgbinigaaGreatDoorW.PrintLast Go.Proofs.YtjmejamgbinigaaGreatDoorW.PrintMore
attribute [local go_sem] max2_int min2_int max_two min_two max_three min_three max_four min_four   -- for this text's walks alone
set_option linter.unusedVariables false
set_option linter.unusedSimpArgs false



def errW : Option Int → Value
  | none => .nilIface
  | some c => .iface 0 (.int .i64 c)
theorem errW_none : errW none = .nilIface := rfl
theorem errW_some (c : Int) : errW (some c) = .iface 0 (.int .i64 c) := rfl

theorem info9 : (Tryz.prog.info? 9).map (fun i => (i.zero, i.size, i.bytes)) = some (some (.string ⟨#[]⟩), 1, 16) := by kernel_rfl
-- the values' own types

end Go.Proofs.YtjmejamgbinigaaGreatDoor.XRp
namespace Go.Proofs.YtjmejamgbinigaaGreatDoor.XRp
open Go.RowKit Go.Proofs.YtjmejamgbinigaaGreatDoorW.PrintWords Go.Proofs.YtjmejamgbinigaaGreatDoorW.PrintLast Go.Proofs.YtjmejamgbinigaaGreatDoorW.PrintMore
attribute [local go_sem] max2_int min2_int max_two min_two max_three min_three max_four min_four   -- for this text's walks alone
set_option linter.unusedVariables false
set_option linter.unusedSimpArgs false

/-! ### furlongref01_Strand: function 56: given -/
def furlongref01_Strand.f (a0 : ByteArray) : Option (ByteArray) := if a0.size ≤ 4294967000 then some (str (strandL (bsL a0))) else none
theorem furlongref01_Strand.calls (a0 : ByteArray) (r : ByteArray) (w : World) (h : furlongref01_Strand.f a0 = some r) :
    Calls Tryz.prog 56 #[.string a0] w fun e w' => e = .returned (.string r) ∧ Below w.heap.size w w' := by
  unfold furlongref01_Strand.f at h
  split at h
  · rename_i hc
    obtain rfl := Option.some.inj h
    exact strand_ref a0 hc w
  · cases h


/-! ### furlongref01_Sum: function 73 -/
def furlongref01_Sum.l0 : Nat → ByteArray → Int → Int → Int → Option (Int)
  | 0, _, _, _, _ => none
  | k + 1, x0, x3, x4, x5 => if x5 < (x0.size : Int) then (if 0 ≤ x5 then (furlongref01_Sum.l0 k x0 (((x3 + ((bt x0 x5) % 4294967296)) % 4294967296) % 65521) (((x4 + (((x3 + ((bt x0 x5) % 4294967296)) % 4294967296) % 65521)) % 4294967296) % 65521) (wrap64 (x5 + 1))) else (none)) else (some (Go.bits .or .u32 ((x4 * 65536) % 4294967296) x3))
def furlongref01_Sum.f (k : Nat) (a0 : ByteArray) : Option (Int) := furlongref01_Sum.l0 k a0 1 0 0
theorem furlongref01_Sum.mono_l : ∀ k, (∀ y0 y1 y2 y3, LeO (furlongref01_Sum.l0 k y0 y1 y2 y3) (furlongref01_Sum.l0 (k + 1) y0 y1 y2 y3))
  | 0 => fun _ _ _ _ r h => by simp [furlongref01_Sum.l0] at h
  | k + 1 => by
    have ih0 := furlongref01_Sum.mono_l k
    · intro y0 y1 y2 y3
      unfold furlongref01_Sum.l0
      repeat' first
      | (with_reducible exact ih0 _ _ _ _)
      | (with_reducible exact LeO.refl _)
      | (with_reducible exact LeO.none _)
      | (with_reducible refine LeO.ite ?_ ?_)
      | (with_reducible refine LeO.bind ?_ (fun _ => ?_))
      | exact ih0 _ _ _ _
      | exact LeO.none _
      | refine LeO.ite ?_ ?_
      | refine LeO.bind ?_ (fun _ => ?_)
theorem furlongref01_Sum.mono : ∀ a0 k, LeO (furlongref01_Sum.f k a0) (furlongref01_Sum.f (k + 1) a0) := by
  intro a0 k
  have ih0 := furlongref01_Sum.mono_l k
  unfold furlongref01_Sum.f
  repeat' first
      | (with_reducible exact ih0 _ _ _ _)
      | (with_reducible exact LeO.refl _)
      | (with_reducible exact LeO.none _)
      | (with_reducible refine LeO.ite ?_ ?_)
      | (with_reducible refine LeO.bind ?_ (fun _ => ?_))
      | exact ih0 _ _ _ _
      | exact LeO.none _
      | refine LeO.ite ?_ ?_
      | refine LeO.bind ?_ (fun _ => ?_)
set_option maxHeartbeats 8000000 in
set_option maxRecDepth 100000 in
theorem furlongref01_Sum.calls (k : Nat) (a0 : ByteArray) (r : Int) (w : World) (h : furlongref01_Sum.f k a0 = some r) :
    Calls Tryz.prog 73 #[.string a0] w fun e w' => e = .returned (.int .u32 r) ∧ Drawn0 w w' := by
  have H : (furlongref01_Sum.l0 k a0 1 0 0) = some r := h
  clear h
  have H' := Aside0.mk H
  clear H
  go_enter Tryz.func73, Tryz.ntmps73
  go_wp2
  go_loopg [3, 4, 5] k (fun kq v3 v4 v5 w' => ∃ (x3_1 : Int) (x4_1 : Int) (x5_1 : Int), v3 = .int .u32 x3_1 ∧ v4 = .int .u32 x4_1 ∧ v5 = .int .i64 x5_1 ∧ Aside0 (furlongref01_Sum.l0 kq a0 x3_1 x4_1 x5_1 = some r) ∧ Aside0 (kq ≤ k) ∧ Drawn0 w w')
  case atStart => exact ⟨(1), (0), (0), (by first | rfl | (simp; done) | (simp [*]; done)), (by first | rfl | (simp; done) | (simp [*]; done)), (by first | rfl | (simp; done) | (simp [*]; done)), H', ⟨Nat.le_refl _⟩, by repeat (first | exact Drawn0.refl _ | apply Drawn0.step)⟩
  case round =>
    clear H'
    obtain ⟨x3_1, x4_1, x5_1, rfl, rfl, rfl, HA, HK1, ⟨m1, rfl⟩⟩ := hrel
    cases gk with
    | zero => exact absurd HA.out (by simp [furlongref01_Sum.l0])
    | succ k1 =>
      have H := HA.out
      clear HA
      simp only [furlongref01_Sum.l0] at H
      by_cases c2 : x5_1 < (a0.size : Int)
      · rw [if_pos c2] at H
        have c2b0 : decide (x5_1 < (a0.size : Int)) = true := decide_eq_true c2
        clear c2
        by_cases c3 : 0 ≤ x5_1
        · rw [if_pos c3] at H
          have c3b0 : decide (0 ≤ x5_1) = true := decide_eq_true c3
          clear c3
          have H' := Aside0.mk H
          clear H
          have p4 : 0 ≤ (x5_1 : Int) := of_decide_eq_true (by first | (with_reducible assumption) | assumption)
          have q4 : x5_1 < (a0.size : Int) := of_decide_eq_true (by first | (with_reducible assumption) | assumption)
          have hx4 := bt_at a0 x5_1
          replace p4 := eq_true p4
          replace q4 := eq_true q4
          go_wp2
          go_roundg k1
          case measure => have := HK1.out; omega
          case rel => exact ⟨(((x3_1 + ((bt a0 x5_1) % 4294967296)) % 4294967296) % 65521), (((x4_1 + (((x3_1 + ((bt a0 x5_1) % 4294967296)) % 4294967296) % 65521)) % 4294967296) % 65521), (wrap64 (x5_1 + 1)), (by first | rfl | (simp; done) | (simp [*]; done)), (by first | rfl | (simp; done) | (simp [*]; done)), (by first | rfl | (simp; done) | (simp [*]; done)), H', ⟨by have := HK1.out; omega⟩, by repeat (first | exact Drawn0.refl _ | apply Drawn0.step)⟩
        · rw [if_neg c3] at H
          exact absurd H (by simp)
      · rw [if_neg c2] at H
        have c2b0 : decide (x5_1 < (a0.size : Int)) = false := decide_eq_false c2
        clear c2
        obtain rfl := Option.some.inj H
        go_wp2
        go_ret
        exact ⟨by first | rfl | (simp; done) | (simp [*]; done), by repeat (first | exact Drawn0.refl _ | apply Drawn0.step)⟩

/-! ### furlongref01_Seal: function 57 -/
def furlongref01_Seal.l0 : Nat → ByteArray → Int → Int → Option (ByteArray)
  | 0, _, _, _ => none
  | k + 1, x0, x3, x4 => if x4 < 8 then (if 0 ≤ (IntKind.u64.wrap (wrap64 (28 - (wrap64 (4 * x4))))) then (if 0 ≤ (Go.bits .and .u32 (shr .u32 x3 (IntKind.u64.wrap (wrap64 (28 - (wrap64 (4 * x4)))))) 15) then (if (Go.bits .and .u32 (shr .u32 x3 (IntKind.u64.wrap (wrap64 (28 - (wrap64 (4 * x4)))))) 15) ≤ (((Go.bits .and .u32 (shr .u32 x3 (IntKind.u64.wrap (wrap64 (28 - (wrap64 (4 * x4)))))) 15) + 1) % 4294967296) then (if (((Go.bits .and .u32 (shr .u32 x3 (IntKind.u64.wrap (wrap64 (28 - (wrap64 (4 * x4)))))) 15) + 1) % 4294967296) ≤ 16 then (if x0.size + ((⟨#[48, 49, 50, 51, 52, 53, 54, 55, 56, 57, 97, 98, 99, 100, 101, 102]⟩ : ByteArray).extract ((Go.bits .and .u32 (shr .u32 x3 (IntKind.u64.wrap (wrap64 (28 - (wrap64 (4 * x4)))))) 15) : Int).toNat ((((Go.bits .and .u32 (shr .u32 x3 (IntKind.u64.wrap (wrap64 (28 - (wrap64 (4 * x4)))))) 15) + 1) % 4294967296) : Int).toNat).size ≤ 9223372036854775807 then (furlongref01_Seal.l0 k (x0 ++ ((⟨#[48, 49, 50, 51, 52, 53, 54, 55, 56, 57, 97, 98, 99, 100, 101, 102]⟩ : ByteArray).extract ((Go.bits .and .u32 (shr .u32 x3 (IntKind.u64.wrap (wrap64 (28 - (wrap64 (4 * x4)))))) 15) : Int).toNat ((((Go.bits .and .u32 (shr .u32 x3 (IntKind.u64.wrap (wrap64 (28 - (wrap64 (4 * x4)))))) 15) + 1) % 4294967296) : Int).toNat)) x3 (wrap64 (x4 + 1))) else (none)) else (none)) else (none)) else (none)) else (none)) else (some x0)
def furlongref01_Seal.f (k : Nat) (a0 : ByteArray) : Option (ByteArray) := (furlongref01_Sum.f k a0).bind fun t101 => (furlongref01_Seal.l0 k a0 t101 0)
theorem furlongref01_Seal.mono_l : ∀ k, (∀ y0 y1 y2, LeO (furlongref01_Seal.l0 k y0 y1 y2) (furlongref01_Seal.l0 (k + 1) y0 y1 y2))
  | 0 => fun _ _ _ r h => by simp [furlongref01_Seal.l0] at h
  | k + 1 => by
    have ih0 := furlongref01_Seal.mono_l k
    · intro y0 y1 y2
      unfold furlongref01_Seal.l0
      repeat' first
      | (with_reducible exact ih0 _ _ _)
      | (with_reducible exact furlongref01_Sum.mono _ _)
      | (with_reducible exact LeO.refl _)
      | (with_reducible exact LeO.none _)
      | (with_reducible refine LeO.ite ?_ ?_)
      | (with_reducible refine LeO.bind ?_ (fun _ => ?_))
      | exact ih0 _ _ _
      | exact furlongref01_Sum.mono _ _
      | exact LeO.none _
      | refine LeO.ite ?_ ?_
      | refine LeO.bind ?_ (fun _ => ?_)
theorem furlongref01_Seal.mono : ∀ a0 k, LeO (furlongref01_Seal.f k a0) (furlongref01_Seal.f (k + 1) a0) := by
  intro a0 k
  have ih0 := furlongref01_Seal.mono_l k
  unfold furlongref01_Seal.f
  repeat' first
      | (with_reducible exact ih0 _ _ _)
      | (with_reducible exact furlongref01_Sum.mono _ _)
      | (with_reducible exact LeO.refl _)
      | (with_reducible exact LeO.none _)
      | (with_reducible refine LeO.ite ?_ ?_)
      | (with_reducible refine LeO.bind ?_ (fun _ => ?_))
      | exact ih0 _ _ _
      | exact furlongref01_Sum.mono _ _
      | exact LeO.none _
      | refine LeO.ite ?_ ?_
      | refine LeO.bind ?_ (fun _ => ?_)
set_option maxHeartbeats 8000000 in
set_option maxRecDepth 100000 in
theorem furlongref01_Seal.calls (k : Nat) (a0 : ByteArray) (r : ByteArray) (w : World) (h : furlongref01_Seal.f k a0 = some r) :
    Calls Tryz.prog 57 #[.string a0] w fun e w' => e = .returned (.string r) ∧ Drawn0 w w' := by
  have H : ((furlongref01_Sum.f k a0).bind fun t101 => (furlongref01_Seal.l0 k a0 t101 0)) = some r := h
  clear h
  replace H := Option.bind_eq_some_iff.mp H
  obtain ⟨t101, A20, H⟩ := H
  replace H : (furlongref01_Seal.l0 k a0 t101 0) = some r := H
  have A2 := Aside0.mk A20
  clear A20
  have H' := Aside0.mk H
  clear H
  go_enter Tryz.func57, Tryz.ntmps57
  go_wp2_with (first | ((with_reducible refine gate_callee (f := 73) rfl ?_); refine goesL_ (some 7) rfl rfl Tryz.func73 (by kernel_rfl) rfl #[.string a0] rfl (by (try simp only [List.map_toArray, List.map_cons, List.map_nil]); first | done | rfl | (simp only [List.length_drop, List.length_take]; rfl)) ?_; (with_reducible refine (furlongref01_Sum.calls k a0 t101 _ A2.out).mono ?_); rintro e w' ⟨rfl, ⟨nd, rfl⟩⟩; refine ⟨_, rfl, ?_⟩))
  go_loopg [0, 4] k (fun kq v0 v4 w' => ∃ (x0_1 : ByteArray) (x4_1 : Int), v0 = .string x0_1 ∧ v4 = .int .i64 x4_1 ∧ Aside0 (furlongref01_Seal.l0 kq x0_1 t101 x4_1 = some r) ∧ Aside0 (kq ≤ k) ∧ Drawn0 w w')
  case atStart => exact ⟨(a0), (0), (by first | rfl | (simp; done) | (simp [*]; done)), (by first | rfl | (simp; done) | (simp [*]; done)), H', ⟨Nat.le_refl _⟩, by repeat (first | exact Drawn0.refl _ | apply Drawn0.step)⟩
  case round =>
    clear H'
    try clear p2
    obtain ⟨x0_1, x4_1, rfl, rfl, HA, HK1, ⟨m1, rfl⟩⟩ := hrel
    cases gk with
    | zero => exact absurd HA.out (by simp [furlongref01_Seal.l0])
    | succ k1 =>
      have H := HA.out
      clear HA
      simp only [furlongref01_Seal.l0] at H
      by_cases c3 : x4_1 < 8
      · rw [if_pos c3] at H
        have c3b0 : decide (x4_1 < 8) = true := decide_eq_true c3
        clear c3
        obtain ⟨ji4, hji4⟩ : ∃ j_ : Int, (IntKind.u64.wrap (wrap64 (28 - (wrap64 (4 * x4_1))))) = j_ := ⟨_, rfl⟩
        replace H : (if 0 ≤ (ji4) then (if 0 ≤ (Go.bits .and .u32 (shr .u32 t101 (ji4)) 15) then (if (Go.bits .and .u32 (shr .u32 t101 (ji4)) 15) ≤ (((Go.bits .and .u32 (shr .u32 t101 (ji4)) 15) + 1) % 4294967296) then (if (((Go.bits .and .u32 (shr .u32 t101 (ji4)) 15) + 1) % 4294967296) ≤ 16 then (if x0_1.size + ((⟨#[48, 49, 50, 51, 52, 53, 54, 55, 56, 57, 97, 98, 99, 100, 101, 102]⟩ : ByteArray).extract ((Go.bits .and .u32 (shr .u32 t101 (ji4)) 15) : Int).toNat ((((Go.bits .and .u32 (shr .u32 t101 (ji4)) 15) + 1) % 4294967296) : Int).toNat).size ≤ 9223372036854775807 then (furlongref01_Seal.l0 k1 (x0_1 ++ ((⟨#[48, 49, 50, 51, 52, 53, 54, 55, 56, 57, 97, 98, 99, 100, 101, 102]⟩ : ByteArray).extract ((Go.bits .and .u32 (shr .u32 t101 (ji4)) 15) : Int).toNat ((((Go.bits .and .u32 (shr .u32 t101 (ji4)) 15) + 1) % 4294967296) : Int).toNat)) t101 (wrap64 (x4_1 + 1))) else (none)) else (none)) else (none)) else (none)) else (none)) = some r := by first | (rw [hji4] at H; exact H) | (simp only [hji4] at H ⊢; exact H)
        by_cases c5 : 0 ≤ (ji4)
        · rw [if_pos c5] at H
          have c5b0 := eq_true c5
          have c5b1 : decide (0 ≤ (ji4)) = true := decide_eq_true c5
          clear c5
          obtain ⟨ji6, hji6⟩ : ∃ j_ : Int, (shr .u32 t101 (ji4)) = j_ := ⟨_, rfl⟩
          replace H : (if 0 ≤ (Go.bits .and .u32 (ji6) 15) then (if (Go.bits .and .u32 (ji6) 15) ≤ (((Go.bits .and .u32 (ji6) 15) + 1) % 4294967296) then (if (((Go.bits .and .u32 (ji6) 15) + 1) % 4294967296) ≤ 16 then (if x0_1.size + ((⟨#[48, 49, 50, 51, 52, 53, 54, 55, 56, 57, 97, 98, 99, 100, 101, 102]⟩ : ByteArray).extract ((Go.bits .and .u32 (ji6) 15) : Int).toNat ((((Go.bits .and .u32 (ji6) 15) + 1) % 4294967296) : Int).toNat).size ≤ 9223372036854775807 then (furlongref01_Seal.l0 k1 (x0_1 ++ ((⟨#[48, 49, 50, 51, 52, 53, 54, 55, 56, 57, 97, 98, 99, 100, 101, 102]⟩ : ByteArray).extract ((Go.bits .and .u32 (ji6) 15) : Int).toNat ((((Go.bits .and .u32 (ji6) 15) + 1) % 4294967296) : Int).toNat)) t101 (wrap64 (x4_1 + 1))) else (none)) else (none)) else (none)) else (none)) = some r := by first | (rw [hji6] at H; exact H) | (simp only [hji6] at H ⊢; exact H)
          have hji6_ : (t101 / 2 ^ min (ji4).toNat 32) = ji6 := hji6
          have hji6z : (ji4) ≤ 32 → (t101 / 2 ^ (ji4).toNat) = ji6 := shr_small hji6
          by_cases c7 : 0 ≤ (Go.bits .and .u32 (ji6) 15)
          · rw [if_pos c7] at H
            have c7b0 := eq_true c7
            have c7b1 : decide (0 ≤ (Go.bits .and .u32 (ji6) 15)) = true := decide_eq_true c7
            clear c7
            by_cases c8 : (Go.bits .and .u32 (ji6) 15) ≤ (((Go.bits .and .u32 (ji6) 15) + 1) % 4294967296)
            · rw [if_pos c8] at H
              have c8b0 := eq_true c8
              have c8b1 : decide ((Go.bits .and .u32 (ji6) 15) ≤ (((Go.bits .and .u32 (ji6) 15) + 1) % 4294967296)) = true := decide_eq_true c8
              by_cases c9 : (((Go.bits .and .u32 (ji6) 15) + 1) % 4294967296) ≤ 16
              · rw [if_pos c9] at H
                have c9b0 := eq_true c9
                have c9b1 : decide ((((Go.bits .and .u32 (ji6) 15) + 1) % 4294967296) ≤ 16) = true := decide_eq_true c9
                by_cases c10 : x0_1.size + ((⟨#[48, 49, 50, 51, 52, 53, 54, 55, 56, 57, 97, 98, 99, 100, 101, 102]⟩ : ByteArray).extract ((Go.bits .and .u32 (ji6) 15) : Int).toNat ((((Go.bits .and .u32 (ji6) 15) + 1) % 4294967296) : Int).toNat).size ≤ 9223372036854775807
                · rw [if_pos c10] at H
                  have c10b0 := eq_true c10
                  have c10b1 : decide (x0_1.size + ((⟨#[48, 49, 50, 51, 52, 53, 54, 55, 56, 57, 97, 98, 99, 100, 101, 102]⟩ : ByteArray).extract ((Go.bits .and .u32 (ji6) 15) : Int).toNat ((((Go.bits .and .u32 (ji6) 15) + 1) % 4294967296) : Int).toNat).size ≤ 9223372036854775807) = true := decide_eq_true c10
                  try have c10b2 : (9223372036854775807 < x0_1.size + ((⟨#[48, 49, 50, 51, 52, 53, 54, 55, 56, 57, 97, 98, 99, 100, 101, 102]⟩ : ByteArray).extract ((Go.bits .and .u32 (ji6) 15) : Int).toNat ((((Go.bits .and .u32 (ji6) 15) + 1) % 4294967296) : Int).toNat).size) = False := eq_false (Nat.not_lt.2 c10)
                  have H' := Aside0.mk H
                  clear H
                  go_wp2
                  go_roundg k1
                  case measure => have := HK1.out; omega
                  case rel => exact ⟨(x0_1 ++ ((⟨#[48, 49, 50, 51, 52, 53, 54, 55, 56, 57, 97, 98, 99, 100, 101, 102]⟩ : ByteArray).extract ((Go.bits .and .u32 (ji6) 15) : Int).toNat ((((Go.bits .and .u32 (ji6) 15) + 1) % 4294967296) : Int).toNat)), (wrap64 (x4_1 + 1)), (by first | rfl | (simp; done) | (simp only [← hji6] <;> (first | rfl | simp)) | (simp [*]; done)), (by first | rfl | (simp; done) | (simp [*]; done)), H', ⟨by have := HK1.out; omega⟩, by repeat (first | exact Drawn0.refl _ | apply Drawn0.step)⟩
                · rw [if_neg c10] at H
                  exact absurd H (by simp)
              · rw [if_neg c9] at H
                exact absurd H (by simp)
            · rw [if_neg c8] at H
              exact absurd H (by simp)
          · rw [if_neg c7] at H
            exact absurd H (by simp)
        · rw [if_neg c5] at H
          exact absurd H (by simp)
      · rw [if_neg c3] at H
        have c3b0 : decide (x4_1 < 8) = false := decide_eq_false c3
        clear c3
        obtain rfl := Option.some.inj H
        go_wp2
        go_ret
        exact ⟨by first | rfl | (simp; done) | (simp [*]; done), by repeat (first | exact Drawn0.refl _ | apply Drawn0.step)⟩

/-! ### furlongref01_Tie: function 58 -/
def furlongref01_Tie.l0 : Nat → List ByteArray → ByteArray → Int → Option (ByteArray)
  | 0, _, _, _ => none
  | k + 1, x0, x3, x4 => if x4 < (x0.length : Int) then (if 0 ≤ x4 then ((furlongref01_Strand.f (rdOf ByteArray.empty x0 x4)).bind fun t103 => (if x3.size + t103.size ≤ 9223372036854775807 then (furlongref01_Tie.l0 k x0 (x3 ++ t103) (wrap64 (x4 + 1))) else (none))) else (none)) else (some x3)
def furlongref01_Tie.f (k : Nat) (l0 : List ByteArray) : Option (ByteArray) := furlongref01_Tie.l0 k l0 (⟨#[]⟩ : ByteArray) 0
theorem furlongref01_Tie.mono_l : ∀ k, (∀ y0 y1 y2, LeO (furlongref01_Tie.l0 k y0 y1 y2) (furlongref01_Tie.l0 (k + 1) y0 y1 y2))
  | 0 => fun _ _ _ r h => by simp [furlongref01_Tie.l0] at h
  | k + 1 => by
    have ih0 := furlongref01_Tie.mono_l k
    · intro y0 y1 y2
      unfold furlongref01_Tie.l0
      repeat' first
      | (with_reducible exact ih0 _ _ _)
      | (with_reducible exact LeO.refl _)
      | (with_reducible exact LeO.none _)
      | (with_reducible refine LeO.ite ?_ ?_)
      | (with_reducible refine LeO.bind ?_ (fun _ => ?_))
      | exact ih0 _ _ _
      | exact LeO.none _
      | refine LeO.ite ?_ ?_
      | refine LeO.bind ?_ (fun _ => ?_)
theorem furlongref01_Tie.mono : ∀ a0 k, LeO (furlongref01_Tie.f k a0) (furlongref01_Tie.f (k + 1) a0) := by
  intro a0 k
  have ih0 := furlongref01_Tie.mono_l k
  unfold furlongref01_Tie.f
  repeat' first
      | (with_reducible exact ih0 _ _ _)
      | (with_reducible exact LeO.refl _)
      | (with_reducible exact LeO.none _)
      | (with_reducible refine LeO.ite ?_ ?_)
      | (with_reducible refine LeO.bind ?_ (fun _ => ?_))
      | exact ih0 _ _ _
      | exact LeO.none _
      | refine LeO.ite ?_ ?_
      | refine LeO.bind ?_ (fun _ => ?_)
set_option maxHeartbeats 8000000 in
set_option maxRecDepth 100000 in
theorem furlongref01_Tie.calls (k : Nat) (A0 : Option Addr) (c0 : Nat) (l0 : List ByteArray) (r : ByteArray) (w : World) (hr0 : Kd.C Kd.string w A0 l0.length l0) (hc0 : l0.length ≤ c0) (h : furlongref01_Tie.f k l0 = some r) :
    Calls Tryz.prog 58 #[.slice A0 l0.length c0] w fun e w' => e = .returned (.string r) ∧ Below w.heap.size w w' := by
  have HR0 := Aside0.mk hr0
  have HC0 := Aside0.mk hc0
  clear hr0 hc0
  have HB := Aside0.mk (Below.refl w.heap.size w)
  have H : (furlongref01_Tie.l0 k l0 (⟨#[]⟩ : ByteArray) 0) = some r := h
  clear h
  have H' := Aside0.mk H
  clear H
  go_enter Tryz.func58, Tryz.ntmps58
  go_wp2
  go_loopg [3, 4] k (fun kq v3 v4 w' => ∃ (x3_1 : ByteArray) (x4_1 : Int), v3 = .string x3_1 ∧ v4 = .int .i64 x4_1 ∧ Aside0 (furlongref01_Tie.l0 kq l0 x3_1 x4_1 = some r) ∧ Aside0 (kq ≤ k) ∧ Aside0 (Below w.heap.size w w'))
  case atStart => exact ⟨((⟨#[]⟩ : ByteArray)), (0), (by first | rfl | (simp; done) | (simp [*]; done)), (by first | rfl | (simp; done) | (simp [*]; done)), H', ⟨Nat.le_refl _⟩, ⟨by repeat (first | (with_reducible first | exact HB.out | apply below_alloc | apply pw_below_drewN | apply below_drew1) | exact HB.out)⟩⟩
  case round =>
    clear H'
    obtain ⟨x3_1, x4_1, rfl, rfl, HA, HK1, HB⟩ := hrel
    cases gk with
    | zero => exact absurd HA.out (by simp [furlongref01_Tie.l0])
    | succ k1 =>
      have H := HA.out
      clear HA
      simp only [furlongref01_Tie.l0] at H
      by_cases c2 : x4_1 < (l0.length : Int)
      · rw [if_pos c2] at H
        have c2b0 : decide (x4_1 < (l0.length : Int)) = true := decide_eq_true c2
        clear c2
        by_cases c3 : 0 ≤ x4_1
        · rw [if_pos c3] at H
          have c3b0 : decide (0 ≤ x4_1) = true := decide_eq_true c3
          clear c3
          replace H := Option.bind_eq_some_iff.mp H
          obtain ⟨t103, A40, H⟩ := H
          replace H : (if x3_1.size + t103.size ≤ 9223372036854775807 then (furlongref01_Tie.l0 k1 l0 (x3_1 ++ t103) (wrap64 (x4_1 + 1))) else (none)) = some r := H
          have A4 := Aside0.mk A40
          clear A40
          by_cases c5 : x3_1.size + t103.size ≤ 9223372036854775807
          · rw [if_pos c5] at H
            have c5b0 := eq_true c5
            have c5b1 : decide (x3_1.size + t103.size ≤ 9223372036854775807) = true := decide_eq_true c5
            try have c5b2 : (9223372036854775807 < x3_1.size + t103.size) = False := eq_false (Nat.not_lt.2 c5)
            have H' := Aside0.mk H
            clear H
            have p102 : 0 ≤ (x4_1 : Int) := of_decide_eq_true (by first | (with_reducible assumption) | assumption)
            have q102 : x4_1 < (l0.length : Int) := of_decide_eq_true (by first | (with_reducible assumption) | assumption)
            obtain ⟨ad102, e102, hx102_0⟩ := Kd.at_string HR0.out x4_1 p102 q102
            cases e102
            replace hx102_0 := (HB.out.cell (World.block_lt_of_cell? w _ hx102_0)).trans hx102_0
            replace p102 := eq_true p102
            replace q102 := eq_true q102
            go_wp2_with (first | ((with_reducible refine gate_callee (f := 56) rfl ?_); refine goesL_ (some 16) rfl rfl Tryz.func56 (by kernel_rfl) rfl #[.string (rdOf ByteArray.empty l0 x4_1)] rfl (by (try simp only [List.map_toArray, List.map_cons, List.map_nil]); first | done | rfl | (simp only [List.length_drop, List.length_take]; rfl)) ?_; (with_reducible refine (furlongref01_Strand.calls (rdOf ByteArray.empty l0 x4_1) t103 _ A4.out).mono ?_); rintro e w6 ⟨rfl, hb⟩; refine ⟨_, rfl, ?_⟩; have n0_ := Aside0.mk (below_step (by repeat (first | (with_reducible first | exact HB.out | apply below_alloc | apply pw_below_drewN | apply below_drew1) | exact HB.out)) hb); clear HB; have HB := n0_; clear n0_; (try clear hb); (try clear hb2); (try clear hk); (try clear hi)))
            go_roundg k1
            case measure => have := HK1.out; omega
            case rel => exact ⟨(x3_1 ++ t103), (wrap64 (x4_1 + 1)), (by first | rfl | (simp; done) | (simp [*]; done)), (by first | rfl | (simp; done) | (simp [*]; done)), H', ⟨by have := HK1.out; omega⟩, ⟨by repeat (first | (with_reducible first | exact HB.out | apply below_alloc | apply pw_below_drewN | apply below_drew1) | exact HB.out)⟩⟩
          · rw [if_neg c5] at H
            exact absurd H (by simp)
        · rw [if_neg c3] at H
          exact absurd H (by simp)
      · rw [if_neg c2] at H
        have c2b0 : decide (x4_1 < (l0.length : Int)) = false := decide_eq_false c2
        clear c2
        obtain rfl := Option.some.inj H
        go_wp2
        go_ret
        exact ⟨by first | rfl | (simp [errW_none, errW_some] <;> rfl) | (simp [*, errW_none, errW_some] <;> rfl), by repeat (first | (with_reducible first | exact HB.out | apply below_alloc | apply pw_below_drewN | apply below_drew1) | exact HB.out)⟩

/-! ### furlongref01_Num: function 59: given -/
def furlongref01_Num.f (a0 : Int) : Option (ByteArray) := if 0 ≤ a0 ∧ a0 < 9223372036854775808 then some (str (Lib.itoa a0)) else none
theorem furlongref01_Num.calls (a0 : Int) (r : ByteArray) (w : World) (h : furlongref01_Num.f a0 = some r) :
    Calls Tryz.prog 59 #[.int .i64 a0] w fun e w' => e = .returned (.string r) ∧ Below w.heap.size w w' := by
  unfold furlongref01_Num.f at h
  split at h
  · rename_i hc
    obtain rfl := Option.some.inj h
    have := num_ref a0.toNat (by omega) w
    rwa [Int.toNat_of_nonneg hc.1] at this
  · cases h


/-! ### furlongref04_Page: function 40 -/
def furlongref04_Page.f (k : Nat) (a0 : ByteArray) (a1 : Int) (a2 : ByteArray) : Option (ByteArray) := (furlongref01_Num.f a1).bind fun t104 => ((furlongref01_Tie.f k (([a0, t104, a2] : List ByteArray))).bind fun t108 => ((furlongref01_Seal.f k t108).bind fun t109 => ((furlongref01_Strand.f t109).bind fun t110 => (some t110))))
theorem furlongref04_Page.mono : ∀ a0 a1 a2 k, LeO (furlongref04_Page.f k a0 a1 a2) (furlongref04_Page.f (k + 1) a0 a1 a2) := by
  intro a0 a1 a2 k
  unfold furlongref04_Page.f
  repeat' first
      | (with_reducible exact furlongref01_Seal.mono _ _)
      | (with_reducible exact furlongref01_Tie.mono _ _)
      | (with_reducible exact LeO.refl _)
      | (with_reducible exact LeO.none _)
      | (with_reducible refine LeO.ite ?_ ?_)
      | (with_reducible refine LeO.bind ?_ (fun _ => ?_))
      | exact furlongref01_Seal.mono _ _
      | exact furlongref01_Tie.mono _ _
      | exact LeO.none _
      | refine LeO.ite ?_ ?_
      | refine LeO.bind ?_ (fun _ => ?_)
set_option maxHeartbeats 8000000 in
set_option maxRecDepth 100000 in
theorem furlongref04_Page.calls (k : Nat) (a0 : ByteArray) (a1 : Int) (a2 : ByteArray) (r : ByteArray) (w : World) (h : furlongref04_Page.f k a0 a1 a2 = some r) :
    Calls Tryz.prog 40 #[.string a0, .int .i64 a1, .string a2] w fun e w' => e = .returned (.string r) ∧ Below w.heap.size w w' := by
  have HB := Aside0.mk (Below.refl w.heap.size w)
  have H : ((furlongref01_Num.f a1).bind fun t104 => ((furlongref01_Tie.f k (([a0, t104, a2] : List ByteArray))).bind fun t108 => ((furlongref01_Seal.f k t108).bind fun t109 => ((furlongref01_Strand.f t109).bind fun t110 => (some t110))))) = some r := h
  clear h
  replace H := Option.bind_eq_some_iff.mp H
  obtain ⟨t104, A40, H⟩ := H
  replace H : ((furlongref01_Tie.f k (([a0, t104, a2] : List ByteArray))).bind fun t108 => ((furlongref01_Seal.f k t108).bind fun t109 => ((furlongref01_Strand.f t109).bind fun t110 => (some t110)))) = some r := H
  have A4 := Aside0.mk A40
  clear A40
  obtain ⟨y105, hy105⟩ : ∃ y_ : List ByteArray, y_ = (([a0, t104, a2] : List ByteArray)) := ⟨_, rfl⟩
  replace H : ((furlongref01_Tie.f k y105).bind fun t108 => ((furlongref01_Seal.f k t108).bind fun t109 => ((furlongref01_Strand.f t109).bind fun t110 => (some t110)))) = some r := by first | (rw [hy105]; with_reducible exact H) | (have H2_ := (Option.bind_some _ _).symm.trans H; rw [hy105]; with_reducible exact H2_) | (have H2_ := (Option.bind_some _ _).symm.trans H; with_reducible exact H2_) | with_reducible exact H | (rw [hy105]; exact H) | exact H
  have Ny105 := Aside0.mk hy105
  clear hy105
  replace H := Option.bind_eq_some_iff.mp H
  obtain ⟨t108, A50, H⟩ := H
  replace H : ((furlongref01_Seal.f k t108).bind fun t109 => ((furlongref01_Strand.f t109).bind fun t110 => (some t110))) = some r := H
  have A5 := Aside0.mk A50
  clear A50
  replace H := Option.bind_eq_some_iff.mp H
  obtain ⟨t109, A60, H⟩ := H
  replace H : ((furlongref01_Strand.f t109).bind fun t110 => (some t110)) = some r := H
  have A6 := Aside0.mk A60
  clear A60
  replace H := Option.bind_eq_some_iff.mp H
  obtain ⟨t110, A70, H⟩ := H
  replace H : (some t110) = some r := H
  have A7 := Aside0.mk A70
  clear A70
  obtain rfl := Option.some.inj H
  go_enter Tryz.func40, Tryz.ntmps40
  go_wp2_with (first | ((with_reducible refine gate_callee (f := 59) rfl ?_); refine goesL_ (some 9) rfl rfl Tryz.func59 (by kernel_rfl) rfl #[.int .i64 a1] rfl (by (try simp only [List.map_toArray, List.map_cons, List.map_nil]); first | done | rfl | (simp only [List.length_drop, List.length_take]; rfl)) ?_; (with_reducible refine (furlongref01_Num.calls a1 t104 _ A4.out).mono ?_); rintro e w8 ⟨rfl, hb⟩; refine ⟨_, rfl, ?_⟩; have n0_ := Aside0.mk (below_step (by repeat (first | (with_reducible first | exact HB.out | apply below_alloc | apply pw_below_drewN | apply below_drew1) | exact HB.out)) hb); clear HB; have HB := n0_; clear n0_; (try clear hb); (try clear hb2); (try clear hk); (try clear hi)) | ((with_reducible refine gate_dst (N := 11) rfl ?_); refine Kd.R_lit Kd.string _ 9 ?hg (N := 11) ?hd (xs := ([a0, t104, a2] : List ByteArray)) (inner := [.string a0, .string t104, .string a2]) (ok := fun _ => True) (okp := fun _ => True) ?hr ?hp (fun _ hk => hk) trivial (Below.refl _ _) (Nat.le_refl _) (by simp) ?_; (case hd => rfl); (case hg => rfl); (case hr => first | (go_simp; done) | (go_simp; rfl)); (case hp => exact (Reps.one (show Kd.M Kd.string _ _ _ a0 [.string a0] from rfl) (Reps.one (show Kd.M Kd.string _ _ _ t104 [.string t104] from rfl) (Reps.one (show Kd.M Kd.string _ _ _ a2 [.string a2] from rfl) (Reps.none _ _))))); intro v106 w9 ho10 hb hg_ hnew_; clear hg_ hnew_; (first | rw [← Ny105.out] at ho10 | (simp only [Int.reduceToNat] at ho10; rw [← Ny105.out] at ho10)); have n0_ := Aside0.mk (Kd.R_lower ho10 (below_size (by repeat (first | (with_reducible first | exact HB.out | apply below_alloc | apply pw_below_drewN | apply below_drew1) | exact HB.out)))); have n1_ := Aside0.mk (below_step (by repeat (first | (with_reducible first | exact HB.out | apply below_alloc | apply pw_below_drewN | apply below_drew1) | exact HB.out)) hb); clear HB; have HO107 := n0_; have HB := n1_; clear n0_ n1_; clear hb ho10; obtain ⟨Ao11, co11, eo11⟩ := Kd.R_slice HO107.out; subst eo11) | ((with_reducible refine gate_callee (f := 58) rfl ?_); refine goesL_ (some 12) rfl rfl Tryz.func58 (by kernel_rfl) rfl #[.slice Ao11 y105.length co11] rfl (by (try simp only [List.map_toArray, List.map_cons, List.map_nil]); first | done | rfl | (simp only [List.length_drop, List.length_take]; rfl)) ?_; (with_reducible refine (furlongref01_Tie.calls k _ _ y105 t108 _ ?side1 ?side2 A5.out).mono ?_); (case side1 => repeat (first | exact (Kd.R_reads' HO107.out).2.2 | (with_reducible refine Kd.C_alloc ?_ _) | (with_reducible refine Kd.C_drewN ?_ _) | (with_reducible refine Kd.C_drew ?_))); (case side2 => exact (Kd.R_reads' HO107.out).2.1); rintro e w12 ⟨rfl, hb⟩; refine ⟨_, rfl, ?_⟩; have n0_ := Aside0.mk (Kd.R_below (by (with_reducible repeat (first | apply Kd.R_alloc | apply Kd.R_drewN | apply Kd.R_drew)); exact HO107.out) hb); have n1_ := Aside0.mk (below_step (by repeat (first | (with_reducible first | exact HB.out | apply below_alloc | apply pw_below_drewN | apply below_drew1) | exact HB.out)) hb); clear HO107; clear HB; have HO107 := n0_; have HB := n1_; clear n0_ n1_; (try clear hb); (try clear hb2); (try clear hk); (try clear hi)) | ((with_reducible refine gate_callee (f := 57) rfl ?_); refine goesL_ (some 13) rfl rfl Tryz.func57 (by kernel_rfl) rfl #[.string t108] rfl (by (try simp only [List.map_toArray, List.map_cons, List.map_nil]); first | done | rfl | (simp only [List.length_drop, List.length_take]; rfl)) ?_; (with_reducible refine (furlongref01_Seal.calls k t108 t109 _ A6.out).mono ?_); rintro e w' ⟨rfl, ⟨nd, rfl⟩⟩; refine ⟨_, rfl, ?_⟩) | ((with_reducible refine gate_callee (f := 56) rfl ?_); refine goesL_ (some 14) rfl rfl Tryz.func56 (by kernel_rfl) rfl #[.string t109] rfl (by (try simp only [List.map_toArray, List.map_cons, List.map_nil]); first | done | rfl | (simp only [List.length_drop, List.length_take]; rfl)) ?_; (with_reducible refine (furlongref01_Strand.calls t109 t110 _ A7.out).mono ?_); rintro e w13 ⟨rfl, hb⟩; refine ⟨_, rfl, ?_⟩; have n0_ := Aside0.mk (Kd.R_below (by (with_reducible repeat (first | apply Kd.R_alloc | apply Kd.R_drewN | apply Kd.R_drew)); exact HO107.out) hb); have n1_ := Aside0.mk (below_step (by repeat (first | (with_reducible first | exact HB.out | apply below_alloc | apply pw_below_drewN | apply below_drew1) | exact HB.out)) hb); clear HO107; clear HB; have HO107 := n0_; have HB := n1_; clear n0_ n1_; (try clear hb); (try clear hb2); (try clear hk); (try clear hi)))
  go_ret
  exact ⟨by first | rfl | (simp [errW_none, errW_some] <;> rfl) | (simp [*, errW_none, errW_some] <;> rfl), by repeat (first | (with_reducible first | exact HB.out | apply below_alloc | apply pw_below_drewN | apply below_drew1) | exact HB.out)⟩

end Go.Proofs.YtjmejamgbinigaaGreatDoor.XRp
namespace Go.Proofs.YtjmejamgbinigaaGreatDoor.XRp
open Go.RowKit Go.Proofs.YtjmejamgbinigaaGreatDoorW.PrintWords Go.Proofs.YtjmejamgbinigaaGreatDoorW.PrintLast Go.Proofs.YtjmejamgbinigaaGreatDoorW.PrintMore
attribute [local go_sem] max2_int min2_int max_two min_two max_three min_three max_four min_four   -- for this text's walks alone
set_option linter.unusedVariables false
set_option linter.unusedSimpArgs false

end Go.Proofs.YtjmejamgbinigaaGreatDoor.XRp
namespace Go.Proofs.YtjmejamgbinigaaGreatDoor
set_option linter.unusedVariables false
set_option linter.unusedSimpArgs false
open Go.RowKit Go.Lib Go.Proofs.YtjmejamgbinigaaGreatDoor.XRp Go.Proofs.YtjmejamgbinigaaGreatDoorW.PrintWords Go.Proofs.YtjmejamgbinigaaGreatDoorW.PrintLast Go.Proofs.YtjmejamgbinigaaGreatDoorW.PrintMore
theorem rsum_loop (s : ByteArray) (hs : s.size ≤ 4294967000) : ∀ (d i a b K : Nat), i + d = s.size → d + 1 ≤ K → a < 65521 → b < 65521 →
    furlongref01_Sum.l0 K s (a : Int) (b : Int) (i : Int) = some (((sumGo ((bsL s).drop i) (a, b)).2 * 65536 + (sumGo ((bsL s).drop i) (a, b)).1 : Nat) : Int)
  | 0, i, a, b, K, h, hK, ha, hb => by
    cases K with
    | zero => omega
    | succ K =>
      rw [furlongref01_Sum.l0, if_neg (by omega), List.drop_eq_nil_of_le (by rw [bs_size]; omega)]
      show some (Go.bits .or .u32 (((b : Int) * 65536) % 4294967296) (a : Int)) = some ((b * 65536 + a : Nat) : Int)
      rw [← sum_or a b ha hb, show ((b : Int) * 65536) % 4294967296 = (b : Int) * 65536 by omega]
  | d + 1, i, a, b, K, h, hK, ha, hb => by
    cases K with
    | zero => omega
    | succ K =>
      have hi : i < s.size := by omega
      rw [furlongref01_Sum.l0, if_pos (by omega), if_pos (by omega), bs_get s i hi]
      have hbt : bt s (i : Int) = (s[i].toNat : Int) := by unfold bt; simp [hi]
      have hx := (s[i]).toNat_lt
      rw [hbt, wrap_id (by omega) (by omega)]
      have e1 : (((a : Int) + ((s[i].toNat : Int) % 4294967296)) % 4294967296) % 65521 = (((a + s[i].toNat) % 65521 : Nat) : Int) := by omega
      rw [e1]
      have hA : (a + s[i].toNat) % 65521 < 65521 := Nat.mod_lt _ (by decide)
      have e2 : (((b : Int) + (((a + s[i].toNat) % 65521 : Nat) : Int)) % 4294967296) % 65521 = (((b + (a + s[i].toNat) % 65521) % 65521 : Nat) : Int) := by omega
      rw [e2, show ((i : Int) + 1) = ((i + 1 : Nat) : Int) by omega, rsum_loop s hs d (i + 1) _ _ K (by omega) (by omega) hA (Nat.mod_lt _ (by decide))]
      rfl
theorem rsum_eq (s : ByteArray) (hs : s.size ≤ 4294967000) (K : Nat) (hK : s.size + 1 ≤ K) : furlongref01_Sum.f K s = some ((sumL (bsL s) : Nat) : Int) := by
  have := rsum_loop s hs s.size 0 1 0 K (by omega) hK (by decide) (by decide)
  exact this
theorem tab_at (d : Nat) (h : d < 16) : (⟨#[48, 49, 50, 51, 52, 53, 54, 55, 56, 57, 97, 98, 99, 100, 101, 102]⟩ : ByteArray).extract d (d + 1) = str [hexD d] := by
  have hn : d = 0 ∨ d = 1 ∨ d = 2 ∨ d = 3 ∨ d = 4 ∨ d = 5 ∨ d = 6 ∨ d = 7 ∨ d = 8 ∨ d = 9 ∨ d = 10 ∨ d = 11 ∨ d = 12 ∨ d = 13 ∨ d = 14 ∨ d = 15 := by omega
  rcases hn with rfl | rfl | rfl | rfl | rfl | rfl | rfl | rfl | rfl | rfl | rfl | rfl | rfl | rfl | rfl | rfl <;> rfl
theorem rseal_step (K : Nat) (x : ByteArray) (n : Nat) (hn : n < 4294967296) (i : Nat) (hi : i < 8) (hx : x.size ≤ 4294967296) :
    furlongref01_Seal.l0 (K + 1) x (n : Int) (i : Int) = furlongref01_Seal.l0 K (x ++ str [hexD (n / 16 ^ (7 - i) % 16)]) (n : Int) ((i + 1 : Nat) : Int) := by
  have hw : IntKind.u64.wrap (wrap64 (28 - (wrap64 (4 * (i : Int))))) = ((28 - 4 * i : Nat) : Int) := by
    rw [IntKind.wrap_u64]
    unfold wrap64
    omega
  have hp : (2 : Nat) ^ (28 - 4 * i) = 16 ^ (7 - i) := by
    have hc : i = 0 ∨ i = 1 ∨ i = 2 ∨ i = 3 ∨ i = 4 ∨ i = 5 ∨ i = 6 ∨ i = 7 := by omega
    rcases hc with rfl | rfl | rfl | rfl | rfl | rfl | rfl | rfl <;> rfl
  have hd : Go.bits .and .u32 (shr .u32 (n : Int) ((28 - 4 * i : Nat) : Int)) 15 = ((n / 16 ^ (7 - i) % 16 : Nat) : Int) := by
    have h1 : shr .u32 (n : Int) ((28 - 4 * i : Nat) : Int) = ((n / 16 ^ (7 - i) : Nat) : Int) := by
      unfold shr
      rw [Int.toNat_natCast, show min (28 - 4 * i) (IntKind.u32.bits) = 28 - 4 * i from Nat.min_eq_left (by show 28 - 4 * i ≤ 32; omega), ← hp]
      simp
    have hlt : n / 16 ^ (7 - i) < 4294967296 := Nat.lt_of_le_of_lt (Nat.div_le_self _ _) hn
    rw [h1, show (15 : Int) = ((15 : Nat) : Int) from rfl, u32_and_nat _ _ hlt (by decide)]
    have := Nat.and_two_pow_sub_one_eq_mod (n / 16 ^ (7 - i)) 4
    rw [show (2 : Nat) ^ 4 - 1 = 15 from rfl, show (2 : Nat) ^ 4 = 16 from rfl] at this
    rw [this]
  rw [furlongref01_Seal.l0, hw, hd]
  obtain ⟨D, hD⟩ : ∃ D, n / 16 ^ (7 - i) % 16 = D := ⟨_, rfl⟩
  have hD16 : D < 16 := by rw [← hD]; exact Nat.mod_lt _ (by decide)
  rw [hD, show (((D : Int) + 1) % 4294967296) = ((D + 1 : Nat) : Int) by omega, Int.toNat_natCast, Int.toNat_natCast, tab_at D hD16]
  have hz : (str [hexD D]).size = 1 := rfl
  rw [if_pos (by omega), if_pos (by omega), if_pos (by omega), if_pos (by omega), if_pos (by omega), if_pos (by rw [hz]; omega), wrap_id (by omega) (by omega)]
  rfl
theorem rseal_eq (s : ByteArray) (hs : s.size ≤ 4294960000) (K : Nat) (hK : s.size + 9 ≤ K) : furlongref01_Seal.f K s = some (str (sealL (bsL s))) := by
  unfold furlongref01_Seal.f
  rw [rsum_eq s (by omega) K (by omega)]
  show furlongref01_Seal.l0 K s (sumL (bsL s) : Nat) 0 = _
  have hn : sumL (bsL s) < 4294967296 := by
    have h1 := sum_fst' (bsL s) 1 0 (by decide) (by decide)
    unfold sumL
    omega
  obtain ⟨n, hnn⟩ : ∃ n, sumL (bsL s) = n := ⟨_, rfl⟩
  rw [hnn] at hn ⊢
  obtain ⟨k, rfl⟩ : ∃ k, K = k + 1 + 1 + 1 + 1 + 1 + 1 + 1 + 1 + 1 := ⟨K - 9, by omega⟩
  have zz : ∀ (x : ByteArray) (d : UInt8), (x ++ str [d]).size = x.size + 1 := fun x d => by rw [ByteArray.size_append]; rfl
  have h0 : (0 : Int) = ((0 : Nat) : Int) := rfl
  rw [h0, rseal_step _ _ n hn 0 (by decide) (by omega), rseal_step _ _ n hn 1 (by decide) (by rw [zz]; omega), rseal_step _ _ n hn 2 (by decide) (by rw [zz, zz]; omega), rseal_step _ _ n hn 3 (by decide) (by rw [zz, zz, zz]; omega),
    rseal_step _ _ n hn 4 (by decide) (by rw [zz, zz, zz, zz]; omega), rseal_step _ _ n hn 5 (by decide) (by rw [zz, zz, zz, zz, zz]; omega), rseal_step _ _ n hn 6 (by decide) (by rw [zz, zz, zz, zz, zz, zz]; omega), rseal_step _ _ n hn 7 (by decide) (by rw [zz, zz, zz, zz, zz, zz, zz]; omega)]
  rw [furlongref01_Seal.l0, if_neg (by decide)]
  congr 1
  apply bs_inj
  unfold sealL
  rw [hnn, bs_of]
  have ha : ∀ (x : ByteArray) (d : UInt8), bsL (x ++ str [d]) = bsL x ++ [d] := fun x d => by simp [bsL, str]
  rw [ha, ha, ha, ha, ha, ha, ha, ha]
  unfold hex8
  simp only [List.append_assoc, List.cons_append, List.nil_append]
  simp
where sum_fst' : ∀ (l : Txt) (a b : Nat), a < 65521 → b < 65521 → (sumGo l (a, b)).1 < 65521 ∧ (sumGo l (a, b)).2 < 65521
  | [], a, b, ha, hb => ⟨ha, hb⟩
  | c :: l, a, b, ha, hb => by
    rw [sumGo]
    exact sum_fst' l _ _ (Nat.mod_lt _ (by decide)) (Nat.mod_lt _ (by decide))
theorem rtie_eq (a b c : ByteArray) (ha : a.size ≤ 1000000) (hb : b.size ≤ 1000000) (hc : c.size ≤ 1000000) (K : Nat) (hK : 4 ≤ K) : furlongref01_Tie.f K [a, b, c] = some (str (tieL [bsL a, bsL b, bsL c])) := by
  unfold furlongref01_Tie.f
  obtain ⟨k, rfl⟩ : ∃ k, K = k + 1 + 1 + 1 + 1 := ⟨K - 4, by omega⟩
  have S : ∀ x : ByteArray, x.size ≤ 1000000 → furlongref01_Strand.f x = some (str (strandL (bsL x))) := fun x hx => if_pos (by omega)
  have Z : ∀ x : ByteArray, x.size ≤ 1000000 → (str (strandL (bsL x))).size ≤ 1000030 := by
    intro x hx
    rw [str_size, strand_length, bs_size]
    have := itoa_len (v := (x.size : Int)) (by unfold inI64; omega)
    omega
  have r0 : rdOf ByteArray.empty [a, b, c] 0 = a := rfl
  have r1 : rdOf ByteArray.empty [a, b, c] 1 = b := rfl
  have r2 : rdOf ByteArray.empty [a, b, c] 2 = c := rfl
  have za := Z a ha
  have zb := Z b hb
  have zc := Z c hc
  have e0 : (⟨#[]⟩ : ByteArray).size = 0 := rfl
  rw [furlongref01_Tie.l0, if_pos (by show (0 : Int) < ((3 : Nat) : Int); decide), if_pos (by decide), r0, S a ha]
  simp only [Option.bind_some]
  rw [if_pos (by rw [e0]; omega), show wrap64 (0 + 1) = 1 from wrap_id (by omega) (by omega), furlongref01_Tie.l0, if_pos (by show (1 : Int) < ((3 : Nat) : Int); decide), if_pos (by decide), r1, S b hb]
  simp only [Option.bind_some]
  rw [if_pos (by rw [ByteArray.size_append, e0]; omega), show wrap64 (1 + 1) = 2 from wrap_id (by omega) (by omega), furlongref01_Tie.l0, if_pos (by show (2 : Int) < ((3 : Nat) : Int); decide), if_pos (by decide), r2, S c hc]
  simp only [Option.bind_some]
  rw [if_pos (by rw [ByteArray.size_append, ByteArray.size_append, e0]; omega), show wrap64 (2 + 1) = 3 from wrap_id (by omega) (by omega), furlongref01_Tie.l0, if_neg (by show ¬ (3 : Int) < ((3 : Nat) : Int); decide)]
  congr 1
  apply bs_inj
  simp [bsL, str, tieL]
theorem laid_size' (k : Txt) (n : Int) (q : Txt) (hk : k.length ≤ 4) (hn : inI64 n) (hq : q.length ≤ 524288) : (tieL [k, itoa n, q]).length ≤ 600000 := by
  have i1 := itoa_len hn
  have i2 : ∀ m : Nat, m ≤ 1048576 → (itoa (m : Int)).length ≤ 20 := fun m hm => itoa_len (by unfold inI64; omega)
  have l1 := strand_length k
  have l2 := strand_length (itoa n)
  have l3 := strand_length q
  have j1 := i2 k.length (by omega)
  have j2 := i2 (itoa n).length (by omega)
  have j3 := i2 q.length (by omega)
  have lt : (tieL [k, itoa n, q]).length = (strandL k).length + ((strandL (itoa n)).length + (strandL q).length) := by simp [tieL]
  omega
theorem page_eq (k : ByteArray) (n : Int) (q : ByteArray) (hk : k.size ≤ 4) (h0 : 0 ≤ n) (hn : inI64 n) (hq : q.size ≤ 524288) (K : Nat) (hK : 700000 ≤ K) : furlongref04_Page.f K k n q = some (str (laidL (bsL k) n (bsL q))) := by
  have hl := laid_size' (bsL k) n (bsL q) (by rw [bs_size]; exact hk) hn (by rw [bs_size]; exact hq)
  have i1 := itoa_len hn
  unfold furlongref04_Page.f
  have e1 : furlongref01_Num.f n = some (str (itoa n)) := if_pos ⟨h0, by unfold inI64 at hn; omega⟩
  rw [e1]
  simp only [Option.bind_some]
  rw [rtie_eq k (str (itoa n)) q (by omega) (by rw [str_size]; omega) (by omega) K (by omega)]
  simp only [Option.bind_some, bs_of]
  rw [rseal_eq _ (by rw [str_size]; omega) K (by rw [str_size]; omega)]
  simp only [Option.bind_some, bs_of]
  have e2 : furlongref01_Strand.f (str (sealL (tieL [bsL k, itoa n, bsL q]))) = some (str (strandL (bsL (str (sealL (tieL [bsL k, itoa n, bsL q])))))) := if_pos (by rw [str_size, seal_length]; omega)
  rw [e2, bs_of]
  rfl
theorem page_call (k : ByteArray) (n : Int) (q : ByteArray) (w : World) (hk : k.size ≤ 4) (h0 : 0 ≤ n) (hn : inI64 n) (hq : q.size ≤ 524288) :
    Calls Tryz.prog 40 #[.string k, .int .i64 n, .string q] w fun e w' => e = .returned (.string (str (laidL (bsL k) n (bsL q)))) ∧ Below w.heap.size w w' :=
  furlongref04_Page.calls 700000 k n q _ w (page_eq k n q hk h0 hn hq 700000 (Nat.le_refl _))
end Go.Proofs.YtjmejamgbinigaaGreatDoor
namespace Go.Proofs.YtjmejamgbinigaaGreatDoor
set_option linter.unusedVariables false
set_option linter.unusedSimpArgs false
open Go.RowKit
theorem start_zero {L : LS} {n : Nat} (h : L.broken = false) (hn : n ≤ 524288) : L.start n = 0 := by
  unfold LS.start
  rw [if_neg (by rw [h]; decide), if_neg (by omega)]
theorem start_broken {L : LS} {n : Nat} (h : L.broken = true) : L.start n = 40 := by
  unfold LS.start
  rw [if_pos h]
theorem start_long {L : LS} {n : Nat} (h : L.broken = false) (hn : 524288 < n) : L.start n = 1 := by
  unfold LS.start
  rw [if_neg (by rw [h]; decide), if_pos hn]
theorem addM_start {s : RS} {L : LS} {q : Txt} {e : Int} (h : L.start q.length = e) (he : e ≠ 0) : addM s L q = (s, L, e) := by
  unfold addM
  rw [h, if_pos he]
theorem addM_go {s : RS} {L : LS} {q pg : Txt} (h : L.start q.length = 0) (hp : laidL kRec (L.recs + 1) q = pg) :
    addM s L q = if (wr s L L.tape pg).2.2 = 0 then ((wr s L L.tape pg).1, { (wr s L L.tape pg).2.1 with recs := (wr s L L.tape pg).2.1.recs + 1 }, 0) else wr s L L.tape pg := by
  unfold addM
  rw [h, hp, if_neg (by decide)]
theorem wr_full {s s1 : RS} {L : LS} {t : Int} {pg : Txt} (h : s.write t pg = (s1, 5)) : wr s L t pg = (s1, L, 5) := by
  unfold wr
  rw [h, if_pos rfl]
theorem wr_bad {s s1 : RS} {L : LS} {t e : Int} {pg : Txt} (h : s.write t pg = (s1, e)) (h0 : e ≠ 0) (h5 : e ≠ 5) : wr s L t pg = (s1, { L with broken := true }, e) := by
  unfold wr
  rw [h, if_neg h5, if_neg h0]
theorem same_broken {L : LS} (h : L.broken = false) : { L with broken := false } = L := by
  cases L
  simp only at h
  rw [h]
theorem wr_ok {s s1 s2 : RS} {L : LS} {t : Int} {pg : Txt} (hb : L.broken = false) (h : s.write t pg = (s1, 0)) (h2 : s1.sync t = (s2, 0)) : wr s L t pg = (s2, L, 0) := by
  unfold wr
  rw [h]
  simp only [h2]
  rw [if_neg (by decide), if_pos trivial]
  simp only [bne_self_eq_false]
  rw [same_broken hb]
theorem wr_sync {s s1 s2 : RS} {L : LS} {t e : Int} {pg : Txt} (h : s.write t pg = (s1, 0)) (h2 : s1.sync t = (s2, e)) (he : e ≠ 0) : wr s L t pg = (s2, { L with broken := true }, e) := by
  unfold wr
  rw [h]
  simp only [h2]
  rw [if_neg (by decide), if_pos trivial]
  have : (e != 0) = true := by simpa using he
  rw [this]
section
variable {w0 w : World} {qb b gs gf : Nat} {s : RS} {L : LS}
theorem rwrite_q (h : QPost w0 qb b gs gf s L w) (t : Int) (pg : Txt) (hl : pg.length ≤ 4194304) (s1 : RS) (e1 : Int) (he : s.write t pg = (s1, e1)) :
    Calls Tryz.prog 21 #[.pointer (some ⟨b, 0, none⟩), .int .i64 t, .string (str pg)] w fun e w' => e = .returned (.int .i64 e1) ∧ QPost w0 qb b gs gf s1 L w' := by
  refine (rwrite_any b gs gf t s w (str pg) h.at_.raw h.at_.ok (by rw [str_size]; omega)).mono ?_
  rintro e w' ⟨rfl, hp⟩
  have hb : (str pg).data.toList = pg := bs_of pg
  have ho := h.at_.ok.write t pg
  rw [hb, he] at hp
  rw [he] at ho
  rw [hb, he]
  exact ⟨rfl, h.reel hp ho⟩
theorem rsync_q (h : QPost w0 qb b gs gf s L w) (t : Int) (s1 : RS) (e1 : Int) (he : s.sync t = (s1, e1)) :
    Calls Tryz.prog 41 #[.pointer (some ⟨b, 0, none⟩), .int .i64 t] w fun e w' => e = .returned (.int .i64 e1) ∧ QPost w0 qb b gs gf s1 L w' := by
  refine (rsync_any b gs gf t s w h.at_.raw h.at_.ok).mono ?_
  rintro e w' ⟨rfl, hp⟩
  have ho := h.at_.ok.sync t
  rw [he] at hp ho ⊢
  exact ⟨rfl, h.reel hp ho⟩
theorem rwipe_q (h : QPost w0 qb b gs gf s L w) (t : Int) (s1 : RS) (e1 : Int) (he : s.wipe t = (s1, e1)) :
    Calls Tryz.prog 39 #[.pointer (some ⟨b, 0, none⟩), .int .i64 t] w fun e w' => e = .returned (.int .i64 e1) ∧ QPost w0 qb b gs gf s1 L w' := by
  refine (rwipe_any b gs gf t s w h.at_.raw h.at_.ok).mono ?_
  rintro e w' ⟨rfl, hp⟩
  have ho := h.at_.ok.wipe t
  rw [he] at hp ho ⊢
  exact ⟨rfl, h.reel hp ho⟩
end
set_option maxHeartbeats 1600000 in
theorem radd_walk (qb b gs gf : Nat) (s : RS) (L : LS) (w w0 : World) (q : ByteArray) (hO : L.Ok) (h : QPost w0 qb b gs gf s L w) (hq : q.size ≤ 4194304) :
    Calls Tryz.prog 13 #[.pointer (some ⟨qb, 0, none⟩), .string q] w fun e w' =>
      e = .returned (.int .i64 (addM s L (bsL q)).2.2) ∧ QPost w0 qb b gs gf (addM s L (bsL q)).1 (addM s L (bsL q)).2.1 w' := by
  have zq := bs_size q
  have c4 := h.cells.2.2.2.2
  cases hbr : L.broken with
  | true =>
    rw [addM_start (start_broken hbr) (by decide)]
    rw [hbr] at c4
    have HL := hd h
    clear h hbr zq
    go_enter Tryz.func13, Tryz.ntmps13
    go_wp2
    go_ret
    exact ⟨rfl, HL.out⟩
  | false =>
    rw [hbr] at c4
    by_cases hsz : q.size ≤ 524288
    · have hst : L.start (bsL q).length = 0 := start_zero hbr (by omega)
      obtain ⟨o1, o2, o3, o4, o5⟩ := hO
      have hin : inI64 (L.recs + 1) := by unfold inI64; omega
      have hlen := laid_size kRec (L.recs + 1) (bsL q) (by decide) hin (by omega)
      obtain ⟨pg, hpg⟩ : ∃ pg, laidL kRec (L.recs + 1) (bsL q) = pg := ⟨_, rfl⟩
      have HP : Hd (∀ w1 : World, Below w.heap.size w w1 → Calls Tryz.prog 40 #[.string ⟨#[114, 101, 99]⟩, .int .i64 (IntKind.i64.wrap (L.recs + 1)), .string q] w1 fun e w' => e = .returned (.string (str pg)) ∧ Below w.heap.size w w') := by
        refine hd fun w1 hb => ?_
        rw [wrap_in (by omega) (by omega), ← hpg]
        exact (page_call ⟨#[114, 101, 99]⟩ (L.recs + 1) q w1 (by decide) (by omega) hin hsz).mono fun e w' ⟨h1, h2⟩ => ⟨h1, hb.trans (h2.mono hb.size)⟩
      rw [addM_go hst hpg]
      rw [hpg] at hlen
      have HPL := hd hlen
      have HLF := hd (fun w' s' (h' : QPost w0 qb b gs gf s' L w') => h'.free 3)
      have HC : Hd (∀ w1 : World, Below w.heap.size w w1 → w1.cell? ⟨qb, 0, none⟩ = some (.pointer (some ⟨b, 0, none⟩)) ∧ w1.cell? ⟨qb, 1, none⟩ = some (.int .i64 L.tape) ∧ w1.cell? ⟨qb, 3, none⟩ = some (.int .i64 L.recs)) := by
        refine hd fun w1 hb => ?_
        have := (h.drawn hb).cells
        exact ⟨this.1, this.2.1, this.2.2.2.1⟩
      have HBD : Hd (∀ n, Below w.heap.size w (w.drewN n)) := hd fun n => ⟨rfl, rfl, rfl, Nat.le_refl _, fun _ _ => rfl⟩
      obtain ⟨s1, e1, he1⟩ : ∃ s1 e1, s.write L.tape pg = (s1, e1) := ⟨_, _, rfl⟩
      have HW : Hd (∀ w1, Below w.heap.size w w1 → Calls Tryz.prog 21 #[.pointer (some ⟨b, 0, none⟩), .int .i64 L.tape, .string (str pg)] w1 fun e w' => e = .returned (.int .i64 e1) ∧ QPost w0 qb b gs gf s1 L w') :=
        hd fun w1 hb => rwrite_q (h.drawn hb) L.tape pg (by omega) s1 e1 he1
      by_cases h5 : e1 = 5
      · subst h5
        rw [wr_full he1, if_neg (show ¬ ((5 : Int) = 0) by decide)]
        clear h zq hbr hst hpg hlen he1 hin
        go_enter Tryz.func13, Tryz.ntmps13
        go_upto_region 5 with (fail)
        go_region_held (fun w' => w'.cell? ⟨qb, 0, none⟩ = some (.pointer (some ⟨b, 0, none⟩)) ∧ w'.cell? ⟨qb, 1, none⟩ = some (.int .i64 L.tape) ∧ w'.cell? ⟨qb, 3, none⟩ = some (.int .i64 L.recs)) (first | exact HC.out _ (HBD.out 1) | exact HC.out _ hb2 | exact d2 | exact d3) (first | (go_at_call 40; refine (HP.out _ (HBD.out 1)).mono ?_; rintro e w1 ⟨rfl, hb2⟩) | (go_at_call 21; refine (HW.out _ hb2).mono ?_; rintro e w2 ⟨rfl, h2⟩; have d2 := And.intro h2.cells.1 (And.intro h2.cells.2.1 h2.cells.2.2.2.1); have HL2 := hd h2; clear h2) | (go_at_call 45; refine did_full.mono ?_; rintro e w3 ⟨rfl, rfl⟩))
        all_goals
          go_wp2_with (fail)
          go_ret
          exact ⟨rfl, HL2.out⟩
      · by_cases h0 : e1 = 0
        · subst h0
          obtain ⟨s2, e2, he2⟩ : ∃ s2 e2, s1.sync L.tape = (s2, e2) := ⟨_, _, rfl⟩
          have HS : Hd (∀ w1, QPost w0 qb b gs gf s1 L w1 → Calls Tryz.prog 41 #[.pointer (some ⟨b, 0, none⟩), .int .i64 L.tape] w1 fun e w' => e = .returned (.int .i64 e2) ∧ QPost w0 qb b gs gf s2 L w') :=
            hd fun w1 h' => rsync_q h' L.tape s2 e2 he2
          by_cases h2 : e2 = 0
          · subst h2
            rw [wr_ok hbr he1 he2, if_pos rfl]
            clear h zq hbr hst hpg hlen he1 he2 hin h5
            go_enter Tryz.func13, Tryz.ntmps13
            go_upto_region 5 with (fail)
            go_region_held (fun w' => w'.cell? ⟨qb, 0, none⟩ = some (.pointer (some ⟨b, 0, none⟩)) ∧ w'.cell? ⟨qb, 1, none⟩ = some (.int .i64 L.tape) ∧ w'.cell? ⟨qb, 3, none⟩ = some (.int .i64 L.recs)) (first | exact HC.out _ (HBD.out 1) | exact HC.out _ hb2 | exact d2 | exact d3) (first | (go_at_call 40; refine (HP.out _ (HBD.out 1)).mono ?_; rintro e w1 ⟨rfl, hb2⟩) | (go_at_call 21; refine (HW.out _ hb2).mono ?_; rintro e w2 ⟨rfl, h2⟩; have d2 := And.intro h2.cells.1 (And.intro h2.cells.2.1 h2.cells.2.2.2.1); have HL2 := hd h2; clear h2) | (go_at_call 45; refine (did_ok true HL2.out).mono ?_; rintro e w3 ⟨rfl, rfl⟩))
            all_goals
              have k0 := HL2.out.cells.1
              have k1 := HL2.out.cells.2.1
              go_wp2_with (fail)
              go_region_held (fun w' => w'.cell? ⟨qb, 0, none⟩ = some (.pointer (some ⟨b, 0, none⟩)) ∧ w'.cell? ⟨qb, 1, none⟩ = some (.int .i64 L.tape)) (first | exact ⟨k0, k1⟩ | exact d4 | exact d5) (first | (go_at_call 41; refine (HS.out _ (HL2.out.drewN 1)).mono ?_; rintro e w4 ⟨rfl, h4⟩; have d4 := And.intro h4.cells.1 h4.cells.2.1; have j3 := h4.cells.2.2.2.1; have f3 := h4.free 3; have HL4 := hd h4; clear h4) | (go_at_call 45; refine (did_ok false HL4.out).mono ?_; rintro e w5 ⟨rfl, rfl⟩))
              all_goals
                go_wp2_with (fail)
                go_ret
                exact ⟨rfl, HL4.out.set (L' := { L with recs := L.recs + 1 }) 3 _ rfl⟩
          · rw [wr_sync he1 he2 h2, if_neg h2]
            have q2 : (e2 == 0) = false := by simpa using h2
            have HN := hd h2
            clear h zq hbr hst hpg hlen he1 he2 hin h5 h2
            go_enter Tryz.func13, Tryz.ntmps13
            go_upto_region 5 with (fail)
            go_region_held (fun w' => w'.cell? ⟨qb, 0, none⟩ = some (.pointer (some ⟨b, 0, none⟩)) ∧ w'.cell? ⟨qb, 1, none⟩ = some (.int .i64 L.tape) ∧ w'.cell? ⟨qb, 3, none⟩ = some (.int .i64 L.recs)) (first | exact HC.out _ (HBD.out 1) | exact HC.out _ hb2 | exact d2 | exact d3) (first | (go_at_call 40; refine (HP.out _ (HBD.out 1)).mono ?_; rintro e w1 ⟨rfl, hb2⟩) | (go_at_call 21; refine (HW.out _ hb2).mono ?_; rintro e w2 ⟨rfl, h2⟩; have d2 := And.intro h2.cells.1 (And.intro h2.cells.2.1 h2.cells.2.2.2.1); have HL2 := hd h2; clear h2) | (go_at_call 45; refine (did_ok true HL2.out).mono ?_; rintro e w3 ⟨rfl, rfl⟩))
            all_goals
              have k0 := HL2.out.cells.1
              have k1 := HL2.out.cells.2.1
              go_wp2_with (fail)
              go_region_held (fun w' => w'.cell? ⟨qb, 0, none⟩ = some (.pointer (some ⟨b, 0, none⟩)) ∧ w'.cell? ⟨qb, 1, none⟩ = some (.int .i64 L.tape)) (first | exact ⟨k0, k1⟩ | exact d4 | exact d5) (first | (go_at_call 41; refine (HS.out _ (HL2.out.drewN 1)).mono ?_; rintro e w4 ⟨rfl, h4⟩; have d4 := And.intro h4.cells.1 h4.cells.2.1; have HL4 := hd h4; clear h4) | (go_at_call 45; refine (did_bad e2 false HL4.out HN.out (.inl rfl)).mono ?_; rintro e w5 ⟨rfl, h5⟩; have d5 := And.intro h5.cells.1 h5.cells.2.1; have HL5 := hd h5; clear h5))
              all_goals
                go_wp2_with (fail)
                go_ret
                exact ⟨rfl, HL5.out⟩
        · rw [wr_bad he1 h0 h5, if_neg h0]
          have q1 : (e1 == 0) = false := by simpa using h0
          have HN := hd (And.intro h0 h5)
          clear h zq hbr hst hpg hlen he1 hin h0 h5
          go_enter Tryz.func13, Tryz.ntmps13
          go_upto_region 5 with (fail)
          go_region_held (fun w' => w'.cell? ⟨qb, 0, none⟩ = some (.pointer (some ⟨b, 0, none⟩)) ∧ w'.cell? ⟨qb, 1, none⟩ = some (.int .i64 L.tape) ∧ w'.cell? ⟨qb, 3, none⟩ = some (.int .i64 L.recs)) (first | exact HC.out _ (HBD.out 1) | exact HC.out _ hb2 | exact d2 | exact d3) (first | (go_at_call 40; refine (HP.out _ (HBD.out 1)).mono ?_; rintro e w1 ⟨rfl, hb2⟩) | (go_at_call 21; refine (HW.out _ hb2).mono ?_; rintro e w2 ⟨rfl, h2⟩; have d2 := And.intro h2.cells.1 (And.intro h2.cells.2.1 h2.cells.2.2.2.1); have HL2 := hd h2; clear h2) | (go_at_call 45; refine (did_bad e1 true HL2.out HN.out.1 (.inr HN.out.2)).mono ?_; rintro e w3 ⟨rfl, h3⟩; have d3 := And.intro h3.cells.1 (And.intro h3.cells.2.1 h3.cells.2.2.2.1); have HL3 := hd h3; clear h3))
          all_goals
            go_wp2_with (fail)
            go_ret
            exact ⟨rfl, HL3.out⟩
    · have hst : L.start (bsL q).length = 1 := start_long hbr (by omega)
      rw [addM_start hst (by decide)]
      have HL := hd h
      have hgt : (524288 : Int) < q.size := by omega
      clear h hbr zq hst hsz
      go_enter Tryz.func13, Tryz.ntmps13
      go_wp2
      go_ret
      exact ⟨rfl, HL.out⟩
end Go.Proofs.YtjmejamgbinigaaGreatDoor
namespace Go.Proofs.YtjmejamgbinigaaGreatDoor
set_option linter.unusedVariables false
set_option linter.unusedSimpArgs false
open Go.RowKit
theorem baseM_start {s : RS} {L : LS} {q : Txt} {e : Int} (h : L.start q.length = e) (he : e ≠ 0) : baseM s L q = (s, L, e) := by
  unfold baseM
  rw [h, if_pos he]
theorem baseM_bad {s s1 : RS} {L L1 : LS} {q pg : Txt} {e : Int} (h : L.start q.length = 0) (hp : laidL kBase (L.epoch + 1) q = pg) (hw : wr s L (1 - L.tape) pg = (s1, L1, e)) (he : e ≠ 0) : baseM s L q = (s1, L1, e) := by
  unfold baseM
  rw [h, hp, hw, if_neg (by decide)]
  simp only
  rw [if_pos he]
theorem baseM_wipe {s s1 s2 : RS} {L : LS} {q pg : Txt} {e : Int} (h : L.start q.length = 0) (hp : laidL kBase (L.epoch + 1) q = pg) (hw : wr s L (1 - L.tape) pg = (s1, L, 0)) (h2 : s1.wipe L.tape = (s2, e)) (he : e ≠ 0) : baseM s L q = (s2, { L with broken := true }, e) := by
  unfold baseM
  rw [h, hp, hw, if_neg (by decide)]
  simp only
  rw [if_neg (by decide), h2, if_pos he]
theorem baseM_done {s s1 s2 : RS} {L : LS} {q pg : Txt} (h : L.start q.length = 0) (hp : laidL kBase (L.epoch + 1) q = pg) (hw : wr s L (1 - L.tape) pg = (s1, L, 0)) (h2 : s1.wipe L.tape = (s2, 0)) : baseM s L q = (s2, { L with tape := 1 - L.tape, epoch := L.epoch + 1, recs := 0 }, 0) := by
  unfold baseM
  rw [h, hp, hw, if_neg (by decide)]
  simp only
  rw [if_neg (by decide), h2, if_neg (fun q => q rfl)]
set_option maxHeartbeats 1600000 in
theorem rbase_walk (qb b gs gf : Nat) (s : RS) (L : LS) (w w0 : World) (q : ByteArray) (hO : L.Ok) (h : QPost w0 qb b gs gf s L w) (hq : q.size ≤ 4194304) :
    Calls Tryz.prog 15 #[.pointer (some ⟨qb, 0, none⟩), .string q] w fun e w' =>
      e = .returned (.int .i64 (baseM s L (bsL q)).2.2) ∧ QPost w0 qb b gs gf (baseM s L (bsL q)).1 (baseM s L (bsL q)).2.1 w' := by
  have zq := bs_size q
  have c4 := h.cells.2.2.2.2
  cases hbr : L.broken with
  | true =>
    rw [baseM_start (start_broken hbr) (by decide)]
    rw [hbr] at c4
    have HL := hd h
    clear h hbr zq
    go_enter Tryz.func15, Tryz.ntmps15
    go_wp2
    go_ret
    exact ⟨rfl, HL.out⟩
  | false =>
    rw [hbr] at c4
    by_cases hsz : q.size ≤ 524288
    · have hst : L.start (bsL q).length = 0 := start_zero hbr (by omega)
      obtain ⟨o1, o2, o3, o4, o5⟩ := hO
      have hin : inI64 (L.epoch + 1) := by unfold inI64; omega
      have hlen := laid_size kBase (L.epoch + 1) (bsL q) (by decide) hin (by omega)
      obtain ⟨pg, hpg⟩ : ∃ pg, laidL kBase (L.epoch + 1) (bsL q) = pg := ⟨_, rfl⟩
      have HP : Hd (∀ w1 : World, Below w.heap.size w w1 → Calls Tryz.prog 40 #[.string ⟨#[98, 97, 115, 101]⟩, .int .i64 (IntKind.i64.wrap (L.epoch + 1)), .string q] w1 fun e w' => e = .returned (.string (str pg)) ∧ Below w.heap.size w w') := by
        refine hd fun w1 hb => ?_
        rw [wrap_in (by omega) (by omega), ← hpg]
        exact (page_call ⟨#[98, 97, 115, 101]⟩ (L.epoch + 1) q w1 (by decide) (by omega) hin hsz).mono fun e w' ⟨h1, h2⟩ => ⟨h1, hb.trans (h2.mono hb.size)⟩
      rw [hpg] at hlen
      have HC : Hd (∀ w1 : World, Below w.heap.size w w1 → w1.cell? ⟨qb, 0, none⟩ = some (.pointer (some ⟨b, 0, none⟩)) ∧ w1.cell? ⟨qb, 1, none⟩ = some (.int .i64 L.tape) ∧ w1.cell? ⟨qb, 2, none⟩ = some (.int .i64 L.epoch)) := by
        refine hd fun w1 hb => ?_
        have := (h.drawn hb).cells
        exact ⟨this.1, this.2.1, this.2.2.1⟩
      have HBD : Hd (∀ n, Below w.heap.size w (w.drewN n)) := hd fun n => ⟨rfl, rfl, rfl, Nat.le_refl _, fun _ _ => rfl⟩
      obtain ⟨s1, e1, he1⟩ : ∃ s1 e1, s.write (1 - L.tape) pg = (s1, e1) := ⟨_, _, rfl⟩
      have hwt : IntKind.i64.wrap (1 - L.tape) = 1 - L.tape := wrap_in (by omega) (by omega)
      have HW : Hd (∀ w1, Below w.heap.size w w1 → Calls Tryz.prog 21 #[.pointer (some ⟨b, 0, none⟩), .int .i64 (IntKind.i64.wrap (1 - L.tape)), .string (str pg)] w1 fun e w' => e = .returned (.int .i64 e1) ∧ QPost w0 qb b gs gf s1 L w') :=
        hd fun w1 hb => by rw [hwt]; exact rwrite_q (h.drawn hb) (1 - L.tape) pg (by omega) s1 e1 he1
      by_cases h5 : e1 = 5
      · subst h5
        rw [baseM_bad hst hpg (wr_full he1) (by decide)]
        clear h zq hbr hst hpg hlen he1 hin hwt
        go_enter Tryz.func15, Tryz.ntmps15
        go_upto_region 5 with (fail)
        go_region_held (fun w' => w'.cell? ⟨qb, 0, none⟩ = some (.pointer (some ⟨b, 0, none⟩)) ∧ w'.cell? ⟨qb, 1, none⟩ = some (.int .i64 L.tape) ∧ w'.cell? ⟨qb, 2, none⟩ = some (.int .i64 L.epoch)) (first | exact HC.out _ (HBD.out 1) | exact HC.out _ hb2 | exact d2 | exact d3) (first | (go_at_call 40; refine (HP.out _ (HBD.out 1)).mono ?_; rintro e w1 ⟨rfl, hb2⟩) | (go_at_call 21; refine (HW.out _ hb2).mono ?_; rintro e w2 ⟨rfl, h2⟩; have d2 := And.intro h2.cells.1 (And.intro h2.cells.2.1 h2.cells.2.2.1); have HL2 := hd h2; clear h2) | (go_at_call 45; refine did_full.mono ?_; rintro e w3 ⟨rfl, rfl⟩))
        all_goals
          go_wp2_with (fail)
          go_ret
          exact ⟨rfl, HL2.out⟩
      · by_cases h0 : e1 = 0
        · subst h0
          obtain ⟨s2, e2, he2⟩ : ∃ s2 e2, s1.sync (1 - L.tape) = (s2, e2) := ⟨_, _, rfl⟩
          have HS : Hd (∀ w1, QPost w0 qb b gs gf s1 L w1 → Calls Tryz.prog 41 #[.pointer (some ⟨b, 0, none⟩), .int .i64 (IntKind.i64.wrap (1 - L.tape))] w1 fun e w' => e = .returned (.int .i64 e2) ∧ QPost w0 qb b gs gf s2 L w') :=
            hd fun w1 h' => by rw [hwt]; exact rsync_q h' (1 - L.tape) s2 e2 he2
          by_cases h2 : e2 = 0
          · subst h2
            obtain ⟨s3, e3, he3⟩ : ∃ s3 e3, s2.wipe L.tape = (s3, e3) := ⟨_, _, rfl⟩
            have HZ : Hd (∀ w1, QPost w0 qb b gs gf s2 L w1 → Calls Tryz.prog 39 #[.pointer (some ⟨b, 0, none⟩), .int .i64 L.tape] w1 fun e w' => e = .returned (.int .i64 e3) ∧ QPost w0 qb b gs gf s3 L w') :=
              hd fun w1 h' => rwipe_q h' L.tape s3 e3 he3
            by_cases h3 : e3 = 0
            · subst h3
              rw [baseM_done hst hpg (wr_ok hbr he1 he2) he3]
              clear h zq hbr hst hpg hlen he1 he2 he3 hin h5 hwt
              go_enter Tryz.func15, Tryz.ntmps15
              go_upto_region 5 with (fail)
              go_region_held (fun w' => w'.cell? ⟨qb, 0, none⟩ = some (.pointer (some ⟨b, 0, none⟩)) ∧ w'.cell? ⟨qb, 1, none⟩ = some (.int .i64 L.tape) ∧ w'.cell? ⟨qb, 2, none⟩ = some (.int .i64 L.epoch)) (first | exact HC.out _ (HBD.out 1) | exact HC.out _ hb2 | exact d2 | exact d3) (first | (go_at_call 40; refine (HP.out _ (HBD.out 1)).mono ?_; rintro e w1 ⟨rfl, hb2⟩) | (go_at_call 21; refine (HW.out _ hb2).mono ?_; rintro e w2 ⟨rfl, h2⟩; have d2 := And.intro h2.cells.1 (And.intro h2.cells.2.1 h2.cells.2.2.1); have HL2 := hd h2; clear h2) | (go_at_call 45; refine (did_ok true HL2.out).mono ?_; rintro e w3 ⟨rfl, rfl⟩))
              all_goals
                have k0 := HL2.out.cells.1
                have k1 := HL2.out.cells.2.1
                go_wp2_with (fail)
                go_region_held (fun w' => w'.cell? ⟨qb, 0, none⟩ = some (.pointer (some ⟨b, 0, none⟩)) ∧ w'.cell? ⟨qb, 1, none⟩ = some (.int .i64 L.tape)) (first | exact ⟨k0, k1⟩ | exact d4 | exact d5) (first | (go_at_call 41; refine (HS.out _ (HL2.out.drewN 1)).mono ?_; rintro e w4 ⟨rfl, h4⟩; have d4 := And.intro h4.cells.1 h4.cells.2.1; have HL4 := hd h4; clear h4) | (go_at_call 45; refine (did_ok false HL4.out).mono ?_; rintro e w5 ⟨rfl, rfl⟩))
                all_goals
                  have m0 := HL4.out.cells.1
                  have m1 := HL4.out.cells.2.1
                  go_wp2_with (fail)
                  go_region_held (fun w' => w'.cell? ⟨qb, 0, none⟩ = some (.pointer (some ⟨b, 0, none⟩)) ∧ w'.cell? ⟨qb, 1, none⟩ = some (.int .i64 L.tape)) (first | exact ⟨m0, m1⟩ | exact d6 | exact d7) (first | (go_at_call 39; refine (HZ.out _ (HL4.out.drewN 1)).mono ?_; rintro e w6 ⟨rfl, h6⟩; have d6 := And.intro h6.cells.1 h6.cells.2.1; obtain ⟨-, n1, n2, n3, -⟩ := h6.cells; have f1 := h6.free 1; have f2 := h6.free 2; have f3 := h6.free 3; have HL6 := hd h6; clear h6) | (go_at_call 45; refine (did_ok false HL6.out).mono ?_; rintro e w7 ⟨rfl, rfl⟩))
                  all_goals
                    go_wp2_with (fail)
                    go_region
                    all_goals (try go_wp2)
                    all_goals
                      go_ret
                      exact ⟨rfl, (((HL6.out.drewN 1).set (L' := { L with tape := 1 - L.tape }) 1 _ rfl).set (L' := { L with tape := 1 - L.tape, epoch := L.epoch + 1 }) 2 _ rfl).set (L' := { L with tape := 1 - L.tape, epoch := L.epoch + 1, recs := 0 }) 3 _ rfl⟩
            · rw [baseM_wipe hst hpg (wr_ok hbr he1 he2) he3 h3]
              have q3 : (e3 == 0) = false := by simpa using h3
              have HN := hd h3
              clear h zq hbr hst hpg hlen he1 he2 he3 hin h5 hwt h3
              go_enter Tryz.func15, Tryz.ntmps15
              go_upto_region 5 with (fail)
              go_region_held (fun w' => w'.cell? ⟨qb, 0, none⟩ = some (.pointer (some ⟨b, 0, none⟩)) ∧ w'.cell? ⟨qb, 1, none⟩ = some (.int .i64 L.tape) ∧ w'.cell? ⟨qb, 2, none⟩ = some (.int .i64 L.epoch)) (first | exact HC.out _ (HBD.out 1) | exact HC.out _ hb2 | exact d2 | exact d3) (first | (go_at_call 40; refine (HP.out _ (HBD.out 1)).mono ?_; rintro e w1 ⟨rfl, hb2⟩) | (go_at_call 21; refine (HW.out _ hb2).mono ?_; rintro e w2 ⟨rfl, h2⟩; have d2 := And.intro h2.cells.1 (And.intro h2.cells.2.1 h2.cells.2.2.1); have HL2 := hd h2; clear h2) | (go_at_call 45; refine (did_ok true HL2.out).mono ?_; rintro e w3 ⟨rfl, rfl⟩))
              all_goals
                have k0 := HL2.out.cells.1
                have k1 := HL2.out.cells.2.1
                go_wp2_with (fail)
                go_region_held (fun w' => w'.cell? ⟨qb, 0, none⟩ = some (.pointer (some ⟨b, 0, none⟩)) ∧ w'.cell? ⟨qb, 1, none⟩ = some (.int .i64 L.tape)) (first | exact ⟨k0, k1⟩ | exact d4 | exact d5) (first | (go_at_call 41; refine (HS.out _ (HL2.out.drewN 1)).mono ?_; rintro e w4 ⟨rfl, h4⟩; have d4 := And.intro h4.cells.1 h4.cells.2.1; have HL4 := hd h4; clear h4) | (go_at_call 45; refine (did_ok false HL4.out).mono ?_; rintro e w5 ⟨rfl, rfl⟩))
                all_goals
                  have m0 := HL4.out.cells.1
                  have m1 := HL4.out.cells.2.1
                  go_wp2_with (fail)
                  go_region_held (fun w' => w'.cell? ⟨qb, 0, none⟩ = some (.pointer (some ⟨b, 0, none⟩)) ∧ w'.cell? ⟨qb, 1, none⟩ = some (.int .i64 L.tape)) (first | exact ⟨m0, m1⟩ | exact d6 | exact d7) (first | (go_at_call 39; refine (HZ.out _ (HL4.out.drewN 1)).mono ?_; rintro e w6 ⟨rfl, h6⟩; have d6 := And.intro h6.cells.1 h6.cells.2.1; obtain ⟨-, n1, n2, n3, -⟩ := h6.cells; have f1 := h6.free 1; have f2 := h6.free 2; have f3 := h6.free 3; have HL6 := hd h6; clear h6) | (go_at_call 45; refine (did_bad e3 false HL6.out HN.out (.inl rfl)).mono ?_; rintro e w7 ⟨rfl, h7⟩; have d7 := And.intro h7.cells.1 h7.cells.2.1; have HL7 := hd h7; clear h7))
                  all_goals
                    go_wp2_with (fail)
                    go_ret
                    exact ⟨rfl, HL7.out⟩
          · rw [baseM_bad hst hpg (wr_sync he1 he2 h2) h2]
            have q2 : (e2 == 0) = false := by simpa using h2
            have HN := hd h2
            clear h zq hbr hst hpg hlen he1 he2 hin h5 hwt h2
            go_enter Tryz.func15, Tryz.ntmps15
            go_upto_region 5 with (fail)
            go_region_held (fun w' => w'.cell? ⟨qb, 0, none⟩ = some (.pointer (some ⟨b, 0, none⟩)) ∧ w'.cell? ⟨qb, 1, none⟩ = some (.int .i64 L.tape) ∧ w'.cell? ⟨qb, 2, none⟩ = some (.int .i64 L.epoch)) (first | exact HC.out _ (HBD.out 1) | exact HC.out _ hb2 | exact d2 | exact d3) (first | (go_at_call 40; refine (HP.out _ (HBD.out 1)).mono ?_; rintro e w1 ⟨rfl, hb2⟩) | (go_at_call 21; refine (HW.out _ hb2).mono ?_; rintro e w2 ⟨rfl, h2⟩; have d2 := And.intro h2.cells.1 (And.intro h2.cells.2.1 h2.cells.2.2.1); have HL2 := hd h2; clear h2) | (go_at_call 45; refine (did_ok true HL2.out).mono ?_; rintro e w3 ⟨rfl, rfl⟩))
            all_goals
              have k0 := HL2.out.cells.1
              have k1 := HL2.out.cells.2.1
              go_wp2_with (fail)
              go_region_held (fun w' => w'.cell? ⟨qb, 0, none⟩ = some (.pointer (some ⟨b, 0, none⟩)) ∧ w'.cell? ⟨qb, 1, none⟩ = some (.int .i64 L.tape)) (first | exact ⟨k0, k1⟩ | exact d4 | exact d5) (first | (go_at_call 41; refine (HS.out _ (HL2.out.drewN 1)).mono ?_; rintro e w4 ⟨rfl, h4⟩; have d4 := And.intro h4.cells.1 h4.cells.2.1; have HL4 := hd h4; clear h4) | (go_at_call 45; refine (did_bad e2 false HL4.out HN.out (.inl rfl)).mono ?_; rintro e w5 ⟨rfl, h5⟩; have d5 := And.intro h5.cells.1 h5.cells.2.1; have HL5 := hd h5; clear h5))
              all_goals
                go_wp2_with (fail)
                go_ret
                exact ⟨rfl, HL5.out⟩
        · rw [baseM_bad hst hpg (wr_bad he1 h0 h5) h0]
          have q1 : (e1 == 0) = false := by simpa using h0
          have HN := hd (And.intro h0 h5)
          clear h zq hbr hst hpg hlen he1 hin h0 h5 hwt
          go_enter Tryz.func15, Tryz.ntmps15
          go_upto_region 5 with (fail)
          go_region_held (fun w' => w'.cell? ⟨qb, 0, none⟩ = some (.pointer (some ⟨b, 0, none⟩)) ∧ w'.cell? ⟨qb, 1, none⟩ = some (.int .i64 L.tape) ∧ w'.cell? ⟨qb, 2, none⟩ = some (.int .i64 L.epoch)) (first | exact HC.out _ (HBD.out 1) | exact HC.out _ hb2 | exact d2 | exact d3) (first | (go_at_call 40; refine (HP.out _ (HBD.out 1)).mono ?_; rintro e w1 ⟨rfl, hb2⟩) | (go_at_call 21; refine (HW.out _ hb2).mono ?_; rintro e w2 ⟨rfl, h2⟩; have d2 := And.intro h2.cells.1 (And.intro h2.cells.2.1 h2.cells.2.2.1); have HL2 := hd h2; clear h2) | (go_at_call 45; refine (did_bad e1 true HL2.out HN.out.1 (.inr HN.out.2)).mono ?_; rintro e w3 ⟨rfl, h3⟩; have d3 := And.intro h3.cells.1 (And.intro h3.cells.2.1 h3.cells.2.2.1); have HL3 := hd h3; clear h3))
          all_goals
            go_wp2_with (fail)
            go_ret
            exact ⟨rfl, HL3.out⟩
    · have hst : L.start (bsL q).length = 1 := start_long hbr (by omega)
      rw [baseM_start hst (by decide)]
      have HL := hd h
      have hgt : (524288 : Int) < q.size := by omega
      clear h hbr zq hst hsz
      go_enter Tryz.func15, Tryz.ntmps15
      go_wp2
      go_ret
      exact ⟨rfl, HL.out⟩
end Go.Proofs.YtjmejamgbinigaaGreatDoor
namespace Go.Proofs.YtjmejamgbinigaaGreatDoor
set_option linter.unusedVariables false
set_option linter.unusedSimpArgs false
open Go.RowKit
structure Reels (w0 w : World) (rb b gs gf : Nat) (s : RS) (x : FS) (fp : List Nat) : Prop where
  mine : MineL w0 w rb s fp
  raw : FRaw w b gs gf x
  apart : ∀ i ∈ FFoot b gs gf, w0.heap.size ≤ i ∧ i ∉ fp
structure Leds (w0 w : World) (rb b gs gf : Nat) (fp : List Nat) (lb qb : Nat) (L M : LS) : Prop where
  lg : Lg w0 w rb fp lb L
  blk : Blk w qb (LCells b M) 57
  low : w0.heap.size ≤ qb
  d1 : qb ∉ fp
  d2 : qb ∉ FFoot b gs gf
  d3 : qb ≠ lb
  d4 : lb ∉ FFoot b gs gf
/-- A block that no call of either reel writes. -/
structure Far (w : World) (b gs gf : Nat) (fp : List Nat) (xb : Nat) (cs : List Value) (T : TypeId) : Prop where
  blk : Blk w xb cs T
  d1 : xb ∉ fp
  d2 : xb ∉ FFoot b gs gf
theorem FRaw.lt' {w : World} {b gs gf : Nat} {x : FS} (h : FRaw w b gs gf x) : ∀ k ∈ FFoot b gs gf, k < w.heap.size := by
  intro k hk
  have h1 := h.blk.lt
  have h2 := h.strs.lt
  have h3 := h.nums.lt
  simp [FFoot] at hk
  omega
section
variable {w0 w w' : World} {rb b gs gf : Nat} {s s' : RS} {x x' : FS} {fp fp' : List Nat} {lb qb : Nat} {L L' M M' : LS}
theorem Reels.below_ (h : Reels w0 w rb b gs gf s x fp) (hb : Below w.heap.size w w') : Reels w0 w' rb b gs gf s x fp :=
  ⟨h.mine.below_ hb, h.raw.chg (Chg.of_below hb (fun _ => False)) id id id, h.apart⟩
theorem Leds.below_ (h : Leds w0 w rb b gs gf fp lb qb L M) (hb : Below w.heap.size w w') : Leds w0 w' rb b gs gf fp lb qb L M :=
  ⟨h.lg.below_ hb, h.blk.below hb, h.low, h.d1, h.d2, h.d3, h.d4⟩
theorem Reels.drewN (h : Reels w0 w rb b gs gf s x fp) (n : Nat) : Reels w0 (w.drewN n) rb b gs gf s x fp := h.below_ (below_drewN0 w n)
theorem Leds.drewN (h : Leds w0 w rb b gs gf fp lb qb L M) (n : Nat) : Leds w0 (w.drewN n) rb b gs gf fp lb qb L M := h.below_ (below_drewN0 w n)
theorem Reels.left {S : Nat → Prop} (h : Reels w0 w rb b gs gf s x fp) (m : MineL w0 w' rb s' fp') (c : Chg S w w') (hS : ∀ i ∈ FFoot b gs gf, ¬ S i) (f : ∀ k ∈ fp', k ∈ fp ∨ w.heap.size ≤ k) : Reels w0 w' rb b gs gf s' x fp' :=
  ⟨m, h.raw.chg c (hS _ (by simp [FFoot])) (hS _ (by simp [FFoot])) (hS _ (by simp [FFoot])), fun i hi => ⟨(h.apart i hi).1, fun q => by
    have := h.raw.lt' i hi
    rcases f i q with q | q
    · exact (h.apart i hi).2 q
    · omega⟩⟩
theorem Leds.left {S : Nat → Prop} (h : Leds w0 w rb b gs gf fp lb qb L M) (l : Lg w0 w' rb fp' lb L') (c : Chg S w w') (hS : ¬ S qb) (f : ∀ k ∈ fp', k ∈ fp ∨ w.heap.size ≤ k) : Leds w0 w' rb b gs gf fp' lb qb L' M :=
  ⟨l, h.blk.chg c hS, h.low, fun q => by
    have := h.blk.lt
    rcases f qb q with q | q
    · exact h.d1 q
    · omega, h.d2, h.d3, h.d4⟩
theorem Reels.right {S : Nat → Prop} (h : Reels w0 w rb b gs gf s x fp) (r : FRaw w' b gs gf x') (c : Chg S w w') (hS : ∀ i ∈ fp, ¬ S i) (hl : ∀ i, S i → w0.heap.size ≤ i) : Reels w0 w' rb b gs gf s x' fp :=
  ⟨⟨h.mine.below.trans (c.below h.mine.below.size hl), h.mine.at_.chg c hS, h.mine.low⟩, r, h.apart⟩
theorem Leds.right {S : Nat → Prop} (h : Leds w0 w rb b gs gf fp lb qb L M) (bk : Blk w' qb (LCells b M') 57) (c : Chg S w w') (hS : ¬ S lb) : Leds w0 w' rb b gs gf fp lb qb L M' :=
  ⟨⟨h.lg.blk.chg c hS, h.lg.out, h.lg.low⟩, bk, h.low, h.d1, h.d2, h.d3, h.d4⟩
theorem Far.below_ {xb : Nat} {cs : List Value} {T : TypeId} (h : Far w b gs gf fp xb cs T) (hb : Below w.heap.size w w') : Far w' b gs gf fp xb cs T := ⟨h.blk.below hb, h.d1, h.d2⟩
theorem Far.drewN {xb : Nat} {cs : List Value} {T : TypeId} (h : Far w b gs gf fp xb cs T) (n : Nat) : Far (w.drewN n) b gs gf fp xb cs T := h.below_ (below_drewN0 w n)
theorem Far.go {S : Nat → Prop} {xb : Nat} {cs : List Value} {T : TypeId} (h : Far w b gs gf fp xb cs T) (c : Chg S w w') (hS : ¬ S xb) (f : ∀ k ∈ fp', k ∈ fp ∨ w.heap.size ≤ k) : Far w' b gs gf fp' xb cs T :=
  ⟨h.blk.chg c hS, fun q => by
    have := h.blk.lt
    rcases f xb q with q | q
    · exact h.d1 q
    · omega, h.d2⟩
/-- What a call of a reel alone keeps. -/
def Keeps (w0 w w' : World) (rb b gs gf : Nat) (fp fp' : List Nat) : Prop := (∀ lb qb L M, Leds w0 w rb b gs gf fp lb qb L M → Leds w0 w' rb b gs gf fp' lb qb L M) ∧ (∀ xb cs T, Far w b gs gf fp xb cs T → Far w' b gs gf fp' xb cs T)
/-- A call of the program's reel alone. -/
theorem Reels.rleft (h : Reels w0 w rb b gs gf s x fp) (p : RPost w rb fp s' w') : ∃ fp', Reels w0 w' rb b gs gf s' x fp' ∧ Keeps w0 w w' rb b gs gf fp fp' := by
  obtain ⟨fp', m, k, c, f⟩ := h.mine.next p
  exact ⟨fp', h.left m c (fun i hi => (h.apart i hi).2) f, fun lb qb L M hl => hl.left (k _ _ hl.lg) c hl.d1 f, fun xb cs T hx => hx.go c hx.d1 f⟩
/-- A call of the document's reel alone. -/
theorem Reels.rright (h : Reels w0 w rb b gs gf s x fp) (p : FPost w b gs gf x' w') : Reels w0 w' rb b gs gf s x' fp ∧ Keeps w0 w w' rb b gs gf fp fp :=
  ⟨h.right p.raw p.chg (fun i hi q => (h.apart i q).2 hi) (fun i q => (h.apart i q).1), fun _ _ _ _ hl => hl.right (hl.blk.chg p.chg hl.d2) p.chg hl.d4, fun xb cs T hx => hx.go p.chg hx.d2 (fun k hk => .inl hk)⟩
theorem p_add (hG : Gl w0) (h : Reels w0 w rb b gs gf s x fp) (hl : Leds w0 w rb b gs gf fp lb qb L M) (hO : L.Ok) (q : ByteArray) (hq : q.size ≤ 4194304) :
    Calls Tryz.prog 12 #[.pointer (some ⟨lb, 0, none⟩), .string q] w fun r w' => r = .returned (.int .i64 (addM s L (bsL q)).2.2) ∧ ∃ fp', Reels w0 w' rb b gs gf (addM s L (bsL q)).1 x fp' ∧ Leds w0 w' rb b gs gf fp' lb qb (addM s L (bsL q)).2.1 M ∧ (∀ xb cs T, xb ≠ lb → Far w b gs gf fp xb cs T → Far w' b gs gf fp' xb cs T) := by
  refine (own_add hG h.mine hl.lg hO q hq _ _ _ rfl).mono ?_
  rintro r w' ⟨rfl, fp', m, l, c, f⟩
  refine ⟨rfl, fp', h.left m c ?_ f, hl.left l c ?_ f, fun xb cs T hn hx => hx.go c (fun q => q.elim hn hx.d1) f⟩
  · rintro i hi (q1 | q1)
    · exact hl.d4 (q1 ▸ hi)
    · exact (h.apart i hi).2 q1
  · rintro (q1 | q1)
    · exact hl.d3 q1
    · exact hl.d1 q1
theorem q_add (h : Reels w0 w rb b gs gf s' s.toF fp) (hs : s.Ok) (hl : Leds w0 w rb b gs gf fp lb qb L M) (hO : M.Ok) (q : ByteArray) (hq : q.size ≤ 4194304) :
    Calls Tryz.prog 13 #[.pointer (some ⟨qb, 0, none⟩), .string q] w fun r w' => r = .returned (.int .i64 (addM s M (bsL q)).2.2) ∧ Reels w0 w' rb b gs gf s' (addM s M (bsL q)).1.toF fp ∧ Leds w0 w' rb b gs gf fp lb qb L (addM s M (bsL q)).2.1 ∧ (∀ xb cs T, xb ≠ qb → Far w b gs gf fp xb cs T → Far w' b gs gf fp xb cs T) := by
  refine (radd_walk qb b gs gf s M w w q hO (QPost.refl ⟨h.raw, hs, hl.blk, hl.d2⟩) hq).mono ?_
  rintro r w' ⟨rfl, p⟩
  refine ⟨rfl, h.right p.at_.raw p.chg ?_ ?_, hl.right p.at_.blk p.chg ?_, fun xb cs T hn hx => hx.go p.chg (fun q => q.elim hn hx.d2) (fun k hk => .inl hk)⟩
  · rintro i hi (q1 | q1)
    · exact hl.d1 (q1 ▸ hi)
    · exact (h.apart i q1).2 hi
  · rintro i (q1 | q1)
    · rw [q1]; exact hl.low
    · exact (h.apart i q1).1
  · rintro (q1 | q1)
    · exact hl.d3 q1.symm
    · exact hl.d4 q1
theorem p_base (hG : Gl w0) (h : Reels w0 w rb b gs gf s x fp) (hl : Leds w0 w rb b gs gf fp lb qb L M) (hO : L.Ok) (q : ByteArray) (hq : q.size ≤ 4194304) :
    Calls Tryz.prog 14 #[.pointer (some ⟨lb, 0, none⟩), .string q] w fun r w' => r = .returned (.int .i64 (baseM s L (bsL q)).2.2) ∧ ∃ fp', Reels w0 w' rb b gs gf (baseM s L (bsL q)).1 x fp' ∧ Leds w0 w' rb b gs gf fp' lb qb (baseM s L (bsL q)).2.1 M ∧ (∀ xb cs T, xb ≠ lb → Far w b gs gf fp xb cs T → Far w' b gs gf fp' xb cs T) := by
  refine (own_base hG h.mine hl.lg hO q hq _ _ _ rfl).mono ?_
  rintro r w' ⟨rfl, fp', m, l, c, f⟩
  refine ⟨rfl, fp', h.left m c ?_ f, hl.left l c ?_ f, fun xb cs T hn hx => hx.go c (fun q => q.elim hn hx.d1) f⟩
  · rintro i hi (q1 | q1)
    · exact hl.d4 (q1 ▸ hi)
    · exact (h.apart i hi).2 q1
  · rintro (q1 | q1)
    · exact hl.d3 q1
    · exact hl.d1 q1
theorem q_base (h : Reels w0 w rb b gs gf s' s.toF fp) (hs : s.Ok) (hl : Leds w0 w rb b gs gf fp lb qb L M) (hO : M.Ok) (q : ByteArray) (hq : q.size ≤ 4194304) :
    Calls Tryz.prog 15 #[.pointer (some ⟨qb, 0, none⟩), .string q] w fun r w' => r = .returned (.int .i64 (baseM s M (bsL q)).2.2) ∧ Reels w0 w' rb b gs gf s' (baseM s M (bsL q)).1.toF fp ∧ Leds w0 w' rb b gs gf fp lb qb L (baseM s M (bsL q)).2.1 ∧ (∀ xb cs T, xb ≠ qb → Far w b gs gf fp xb cs T → Far w' b gs gf fp xb cs T) := by
  refine (rbase_walk qb b gs gf s M w w q hO (QPost.refl ⟨h.raw, hs, hl.blk, hl.d2⟩) hq).mono ?_
  rintro r w' ⟨rfl, p⟩
  refine ⟨rfl, h.right p.at_.raw p.chg ?_ ?_, hl.right p.at_.blk p.chg ?_, fun xb cs T hn hx => hx.go p.chg (fun q => q.elim hn hx.d2) (fun k hk => .inl hk)⟩
  · rintro i hi (q1 | q1)
    · exact hl.d1 (q1 ▸ hi)
    · exact (h.apart i q1).2 hi
  · rintro i (q1 | q1)
    · rw [q1]; exact hl.low
    · exact (h.apart i q1).1
  · rintro (q1 | q1)
    · exact hl.d3 q1.symm
    · exact hl.d4 q1
theorem p_write (h : Reels w0 w rb b gs gf s x fp) (t : Int) (q : ByteArray) (hq : q.size ≤ 4194304) :
    Calls Tryz.prog 20 #[.pointer (some ⟨rb, 0, none⟩), .int .i64 t, .string q] w fun r w' => r = .returned (.int .i64 (s.write t (bsL q)).2) ∧ ∃ fp', Reels w0 w' rb b gs gf (s.write t (bsL q)).1 x fp' ∧ Keeps w0 w w' rb b gs gf fp fp' := by
  refine (write_any rb t s fp w q h.mine.at_ (by omega)).mono ?_
  rintro r w' ⟨rfl, hp⟩
  exact ⟨rfl, h.rleft hp⟩
theorem q_write (h : Reels w0 w rb b gs gf s' s.toF fp) (hs : s.Ok) (t : Int) (q : ByteArray) (hq : q.size ≤ 4194304) :
    Calls Tryz.prog 21 #[.pointer (some ⟨b, 0, none⟩), .int .i64 t, .string q] w fun r w' => r = .returned (.int .i64 (s.write t (bsL q)).2) ∧ Reels w0 w' rb b gs gf s' (s.write t (bsL q)).1.toF fp ∧ Keeps w0 w w' rb b gs gf fp fp := by
  refine (rwrite_any b gs gf t s w q h.raw hs (by omega)).mono ?_
  rintro r w' ⟨rfl, hp⟩
  exact ⟨rfl, h.rright hp⟩
theorem p_arm (h : Reels w0 w rb b gs gf s x fp) (n : Int) (h0 : -9223372036854775808 ≤ n) (h1 : n ≤ 9223372036854775807) :
    Calls Tryz.prog 16 #[.pointer (some ⟨rb, 0, none⟩), .int .i64 n] w fun r w' => r = .returned (.tuple #[]) ∧ ∃ fp', Reels w0 w' rb b gs gf (s.arm n) x fp' ∧ Keeps w0 w w' rb b gs gf fp fp' := by
  refine (arm_any rb n s fp w h.mine.at_ h0 h1).mono ?_
  rintro r w' ⟨rfl, hp⟩
  exact ⟨rfl, h.rleft hp⟩
theorem q_arm (h : Reels w0 w rb b gs gf s' s.toF fp) (n : Int) :
    Reels w0 (w.setCell ⟨b, 3, none⟩ (.int .i64 n)) rb b gs gf s' (s.arm n).toF fp ∧ Keeps w0 w (w.setCell ⟨b, 3, none⟩ (.int .i64 n)) rb b gs gf fp fp :=
  h.rright (h.raw.post.setB (x' := (s.arm n).toF) 3 (.int .i64 n) rfl rfl rfl)
theorem p_crash (h : Reels w0 w rb b gs gf s x fp) (k0 k1 : Int) (turn : UInt8) :
    Calls Tryz.prog 17 #[.pointer (some ⟨rb, 0, none⟩), .agg #[.int .i64 k0, .int .i64 k1, .int .u8 turn.toNat]] w fun r w' => r = .returned (.tuple #[]) ∧ ∃ fp', Reels w0 w' rb b gs gf (s.crash k0 k1 turn) x fp' ∧ Keeps w0 w w' rb b gs gf fp fp' := by
  refine (crash_any rb k0 k1 turn s fp w h.mine.at_).mono ?_
  rintro r w' ⟨rfl, hp⟩
  exact ⟨rfl, h.rleft hp⟩
theorem q_crash (h : Reels w0 w rb b gs gf s' s.toF fp) (hs : s.Ok) (k0 k1 : Int) (turn : UInt8) :
    Calls Tryz.prog 18 #[.pointer (some ⟨b, 0, none⟩), .agg #[.int .i64 k0, .int .i64 k1, .int .u8 turn.toNat]] w fun r w' => r = .returned (.tuple #[]) ∧ Reels w0 w' rb b gs gf s' (s.crash k0 k1 turn).toF fp ∧ Keeps w0 w w' rb b gs gf fp fp := by
  refine (rcrash_any b gs gf k0 k1 turn s w h.raw hs).mono ?_
  rintro r w' ⟨rfl, hp⟩
  exact ⟨rfl, h.rright hp⟩
theorem p_read (h : Reels w0 w rb b gs gf s x fp) (t : Int) :
    Calls Tryz.prog 25 #[.pointer (some ⟨rb, 0, none⟩), .int .i64 t] w fun r w' => r = .returned (.tuple #[.string (str (s.read t).1), .int .i64 (s.read t).2]) ∧ ∃ n, w' = w.drewN n := by
  exact read_any rb t s fp w h.mine.at_
theorem q_read (h : Reels w0 w rb b gs gf s' s.toF fp) (t : Int) :
    Calls Tryz.prog 37 #[.pointer (some ⟨b, 0, none⟩), .int .i64 t] w fun r w' => r = .returned (.tuple #[.string (str (s.read t).1), .int .i64 (s.read t).2]) ∧ w = w' :=
  rread_any b gs gf t s w h.raw
end
set_option maxHeartbeats 800000 in
/-- The law's 'same'. -/
theorem same4_any {w0 w : World} {rb b gs gf : Nat} {s : RS} {fp : List Nat} (h : Reels w0 w rb b gs gf s s.toF fp) :
    Calls Tryz.prog 11 #[.pointer (some ⟨rb, 0, none⟩), .pointer (some ⟨b, 0, none⟩)] w fun r w' => r = .returned (.bool true) ∧ ∃ n, w' = w.drewN n := by
  have H := hd h
  clear h
  go_enter Tryz.func11, Tryz.ntmps11
  go_wp2_with (fail)
  go_loopw [5] (fun t wr => ∃ t' : Int, 0 ≤ t' ∧ t' ≤ 2 ∧ t = .int .i64 t' ∧ Hd (∃ n, wr = w.drewN n)) (fun t _ => (3 - RowKit.intOf t).toNat)
  case atStart => exact ⟨0, by omega, by omega, rfl, hd ⟨0, rfl⟩⟩
  case round =>
    obtain ⟨t', ht0, ht1, rfl, HN⟩ := hrel
    obtain ⟨n, rfl⟩ := HN.out
    by_cases htl : t' ≤ 1
    · have HR1 := hd (p_read (H.out.drewN n) t')
      obtain ⟨⟨txt, er⟩, hre⟩ : ∃ p, s.read t' = p := ⟨_, rfl⟩
      rw [hre] at HR1
      have HR2 := hd (fun m => q_read (H.out.drewN m) t')
      rw [hre] at HR2
      clear hre HN
      go_wp2_with (fail)
      refine HR1.out.mono ?_
      rintro e w1 ⟨rfl, m, rfl⟩
      go_wp2_with (fail)
      refine (HR2.out _).mono ?_
      rintro e w1 ⟨rfl, rfl⟩
      go_wp2_with (fail)
      refine (num4_any _ _).mono ?_
      rintro e w' ⟨rfl, rfl⟩
      go_wp2_with (fail)
      go_roundw
      case rel => exact ⟨t' + 1, by omega, by omega, by go_num, hd ⟨n + m, rfl⟩⟩
      case measure => simp [RowKit.intOf]; omega
    · obtain rfl : t' = 2 := by omega
      go_wp2_with (fail)
      go_ret
      exact ⟨rfl, n, rfl⟩
end Go.Proofs.YtjmejamgbinigaaGreatDoor
namespace Go.Proofs.YtjmejamgbinigaaGreatDoor.XRs
open Go.RowKit Go.Proofs.YtjmejamgbinigaaGreatDoorW.PrintWords Go.Proofs.YtjmejamgbinigaaGreatDoorW.PrintLast Go.Proofs.YtjmejamgbinigaaGreatDoorW.PrintMore
attribute [local go_sem] max2_int min2_int max_two min_two max_three min_three max_four min_four   -- for this text's walks alone
set_option linter.unusedVariables false
set_option linter.unusedSimpArgs false



def errW : Option Int → Value
  | none => .nilIface
  | some c => .iface 0 (.int .i64 c)
theorem errW_none : errW none = .nilIface := rfl
theorem errW_some (c : Int) : errW (some c) = .iface 0 (.int .i64 c) := rfl

theorem info9 : (Tryz.prog.info? 9).map (fun i => (i.zero, i.size, i.bytes)) = some (some (.string ⟨#[]⟩), 1, 16) := by kernel_rfl
-- the values' own types

end Go.Proofs.YtjmejamgbinigaaGreatDoor.XRs
namespace Go.Proofs.YtjmejamgbinigaaGreatDoor.XRs
open Go.RowKit Go.Proofs.YtjmejamgbinigaaGreatDoorW.PrintWords Go.Proofs.YtjmejamgbinigaaGreatDoorW.PrintLast Go.Proofs.YtjmejamgbinigaaGreatDoorW.PrintMore
attribute [local go_sem] max2_int min2_int max_two min_two max_three min_three max_four min_four   -- for this text's walks alone
set_option linter.unusedVariables false
set_option linter.unusedSimpArgs false

/-! ### furlongref01_First: function 69 -/
def furlongref01_First.l0 : Nat → ByteArray → Int → Int → Option (ByteArray × ByteArray × Int)
  | 0, _, _, _ => none
  | k + 1, x0, x5, x6 => if x6 < (x0.size : Int) then (if x6 < 8 then (if 0 ≤ x6 then (if (bt x0 x6) ≥ 48 then (if (bt x0 x6) ≤ 57 then (furlongref01_First.l0 k x0 (wrap64 ((wrap64 (10 * x5)) + (((bt x0 x6) - 48) % 256))) (wrap64 (x6 + 1))) else (if x6 = 0 then (some ((⟨#[]⟩ : ByteArray), x0, 10)) else (if x6 = (x0.size : Int) then (some ((⟨#[]⟩ : ByteArray), x0, 10)) else (if (bt x0 x6) = 58 then (if x6 > 1 then (if 0 < (x0.size : Int) then (if (bt x0 0) = 48 then (some ((⟨#[]⟩ : ByteArray), x0, 10)) else (if x5 > (wrap64 ((wrap64 ((x0.size : Int) - x6)) - 2)) then (some ((⟨#[]⟩ : ByteArray), x0, 10)) else (if x5 > (wrap64 ((wrap64 (1048576 - x6)) - 2)) then (some ((⟨#[]⟩ : ByteArray), x0, 10)) else (if 0 ≤ (wrap64 ((wrap64 (x6 + 1)) + x5)) then (if (wrap64 ((wrap64 (x6 + 1)) + x5)) < (x0.size : Int) then (if (bt x0 (wrap64 ((wrap64 (x6 + 1)) + x5))) = 44 then (if 0 ≤ (wrap64 (x6 + 1)) then (if (wrap64 (x6 + 1)) ≤ (wrap64 ((wrap64 (x6 + 1)) + x5)) then (if (wrap64 ((wrap64 (x6 + 1)) + x5)) ≤ (x0.size : Int) then (if 0 ≤ (wrap64 ((wrap64 (x6 + 2)) + x5)) then (if (wrap64 ((wrap64 (x6 + 2)) + x5)) ≤ (x0.size : Int) then (some (x0.extract ((wrap64 (x6 + 1)) : Int).toNat ((wrap64 ((wrap64 (x6 + 1)) + x5)) : Int).toNat, x0.extract ((wrap64 ((wrap64 (x6 + 2)) + x5)) : Int).toNat x0.size, 0)) else (none)) else (none)) else (none)) else (none)) else (none)) else (some ((⟨#[]⟩ : ByteArray), x0, 10))) else (none)) else (none))))) else (none)) else (if x5 > (wrap64 ((wrap64 ((x0.size : Int) - x6)) - 2)) then (some ((⟨#[]⟩ : ByteArray), x0, 10)) else (if x5 > (wrap64 ((wrap64 (1048576 - x6)) - 2)) then (some ((⟨#[]⟩ : ByteArray), x0, 10)) else (if 0 ≤ (wrap64 ((wrap64 (x6 + 1)) + x5)) then (if (wrap64 ((wrap64 (x6 + 1)) + x5)) < (x0.size : Int) then (if (bt x0 (wrap64 ((wrap64 (x6 + 1)) + x5))) = 44 then (if 0 ≤ (wrap64 (x6 + 1)) then (if (wrap64 (x6 + 1)) ≤ (wrap64 ((wrap64 (x6 + 1)) + x5)) then (if (wrap64 ((wrap64 (x6 + 1)) + x5)) ≤ (x0.size : Int) then (if 0 ≤ (wrap64 ((wrap64 (x6 + 2)) + x5)) then (if (wrap64 ((wrap64 (x6 + 2)) + x5)) ≤ (x0.size : Int) then (some (x0.extract ((wrap64 (x6 + 1)) : Int).toNat ((wrap64 ((wrap64 (x6 + 1)) + x5)) : Int).toNat, x0.extract ((wrap64 ((wrap64 (x6 + 2)) + x5)) : Int).toNat x0.size, 0)) else (none)) else (none)) else (none)) else (none)) else (none)) else (some ((⟨#[]⟩ : ByteArray), x0, 10))) else (none)) else (none))))) else (some ((⟨#[]⟩ : ByteArray), x0, 10)))))) else (if x6 = 0 then (some ((⟨#[]⟩ : ByteArray), x0, 10)) else (if x6 = (x0.size : Int) then (some ((⟨#[]⟩ : ByteArray), x0, 10)) else (if (bt x0 x6) = 58 then (if x6 > 1 then (if 0 < (x0.size : Int) then (if (bt x0 0) = 48 then (some ((⟨#[]⟩ : ByteArray), x0, 10)) else (if x5 > (wrap64 ((wrap64 ((x0.size : Int) - x6)) - 2)) then (some ((⟨#[]⟩ : ByteArray), x0, 10)) else (if x5 > (wrap64 ((wrap64 (1048576 - x6)) - 2)) then (some ((⟨#[]⟩ : ByteArray), x0, 10)) else (if 0 ≤ (wrap64 ((wrap64 (x6 + 1)) + x5)) then (if (wrap64 ((wrap64 (x6 + 1)) + x5)) < (x0.size : Int) then (if (bt x0 (wrap64 ((wrap64 (x6 + 1)) + x5))) = 44 then (if 0 ≤ (wrap64 (x6 + 1)) then (if (wrap64 (x6 + 1)) ≤ (wrap64 ((wrap64 (x6 + 1)) + x5)) then (if (wrap64 ((wrap64 (x6 + 1)) + x5)) ≤ (x0.size : Int) then (if 0 ≤ (wrap64 ((wrap64 (x6 + 2)) + x5)) then (if (wrap64 ((wrap64 (x6 + 2)) + x5)) ≤ (x0.size : Int) then (some (x0.extract ((wrap64 (x6 + 1)) : Int).toNat ((wrap64 ((wrap64 (x6 + 1)) + x5)) : Int).toNat, x0.extract ((wrap64 ((wrap64 (x6 + 2)) + x5)) : Int).toNat x0.size, 0)) else (none)) else (none)) else (none)) else (none)) else (none)) else (some ((⟨#[]⟩ : ByteArray), x0, 10))) else (none)) else (none))))) else (none)) else (if x5 > (wrap64 ((wrap64 ((x0.size : Int) - x6)) - 2)) then (some ((⟨#[]⟩ : ByteArray), x0, 10)) else (if x5 > (wrap64 ((wrap64 (1048576 - x6)) - 2)) then (some ((⟨#[]⟩ : ByteArray), x0, 10)) else (if 0 ≤ (wrap64 ((wrap64 (x6 + 1)) + x5)) then (if (wrap64 ((wrap64 (x6 + 1)) + x5)) < (x0.size : Int) then (if (bt x0 (wrap64 ((wrap64 (x6 + 1)) + x5))) = 44 then (if 0 ≤ (wrap64 (x6 + 1)) then (if (wrap64 (x6 + 1)) ≤ (wrap64 ((wrap64 (x6 + 1)) + x5)) then (if (wrap64 ((wrap64 (x6 + 1)) + x5)) ≤ (x0.size : Int) then (if 0 ≤ (wrap64 ((wrap64 (x6 + 2)) + x5)) then (if (wrap64 ((wrap64 (x6 + 2)) + x5)) ≤ (x0.size : Int) then (some (x0.extract ((wrap64 (x6 + 1)) : Int).toNat ((wrap64 ((wrap64 (x6 + 1)) + x5)) : Int).toNat, x0.extract ((wrap64 ((wrap64 (x6 + 2)) + x5)) : Int).toNat x0.size, 0)) else (none)) else (none)) else (none)) else (none)) else (none)) else (some ((⟨#[]⟩ : ByteArray), x0, 10))) else (none)) else (none))))) else (some ((⟨#[]⟩ : ByteArray), x0, 10)))))) else (none)) else (if x6 = 0 then (some ((⟨#[]⟩ : ByteArray), x0, 10)) else (if x6 = (x0.size : Int) then (some ((⟨#[]⟩ : ByteArray), x0, 10)) else (if 0 ≤ x6 then (if (bt x0 x6) = 58 then (if x6 > 1 then (if 0 < (x0.size : Int) then (if (bt x0 0) = 48 then (some ((⟨#[]⟩ : ByteArray), x0, 10)) else (if x5 > (wrap64 ((wrap64 ((x0.size : Int) - x6)) - 2)) then (some ((⟨#[]⟩ : ByteArray), x0, 10)) else (if x5 > (wrap64 ((wrap64 (1048576 - x6)) - 2)) then (some ((⟨#[]⟩ : ByteArray), x0, 10)) else (if 0 ≤ (wrap64 ((wrap64 (x6 + 1)) + x5)) then (if (wrap64 ((wrap64 (x6 + 1)) + x5)) < (x0.size : Int) then (if (bt x0 (wrap64 ((wrap64 (x6 + 1)) + x5))) = 44 then (if 0 ≤ (wrap64 (x6 + 1)) then (if (wrap64 (x6 + 1)) ≤ (wrap64 ((wrap64 (x6 + 1)) + x5)) then (if (wrap64 ((wrap64 (x6 + 1)) + x5)) ≤ (x0.size : Int) then (if 0 ≤ (wrap64 ((wrap64 (x6 + 2)) + x5)) then (if (wrap64 ((wrap64 (x6 + 2)) + x5)) ≤ (x0.size : Int) then (some (x0.extract ((wrap64 (x6 + 1)) : Int).toNat ((wrap64 ((wrap64 (x6 + 1)) + x5)) : Int).toNat, x0.extract ((wrap64 ((wrap64 (x6 + 2)) + x5)) : Int).toNat x0.size, 0)) else (none)) else (none)) else (none)) else (none)) else (none)) else (some ((⟨#[]⟩ : ByteArray), x0, 10))) else (none)) else (none))))) else (none)) else (if x5 > (wrap64 ((wrap64 ((x0.size : Int) - x6)) - 2)) then (some ((⟨#[]⟩ : ByteArray), x0, 10)) else (if x5 > (wrap64 ((wrap64 (1048576 - x6)) - 2)) then (some ((⟨#[]⟩ : ByteArray), x0, 10)) else (if 0 ≤ (wrap64 ((wrap64 (x6 + 1)) + x5)) then (if (wrap64 ((wrap64 (x6 + 1)) + x5)) < (x0.size : Int) then (if (bt x0 (wrap64 ((wrap64 (x6 + 1)) + x5))) = 44 then (if 0 ≤ (wrap64 (x6 + 1)) then (if (wrap64 (x6 + 1)) ≤ (wrap64 ((wrap64 (x6 + 1)) + x5)) then (if (wrap64 ((wrap64 (x6 + 1)) + x5)) ≤ (x0.size : Int) then (if 0 ≤ (wrap64 ((wrap64 (x6 + 2)) + x5)) then (if (wrap64 ((wrap64 (x6 + 2)) + x5)) ≤ (x0.size : Int) then (some (x0.extract ((wrap64 (x6 + 1)) : Int).toNat ((wrap64 ((wrap64 (x6 + 1)) + x5)) : Int).toNat, x0.extract ((wrap64 ((wrap64 (x6 + 2)) + x5)) : Int).toNat x0.size, 0)) else (none)) else (none)) else (none)) else (none)) else (none)) else (some ((⟨#[]⟩ : ByteArray), x0, 10))) else (none)) else (none))))) else (some ((⟨#[]⟩ : ByteArray), x0, 10))) else (none))))) else (if x6 = 0 then (some ((⟨#[]⟩ : ByteArray), x0, 10)) else (if x6 = (x0.size : Int) then (some ((⟨#[]⟩ : ByteArray), x0, 10)) else (if 0 ≤ x6 then (none) else (none))))
def furlongref01_First.f (k : Nat) (a0 : ByteArray) : Option (ByteArray × ByteArray × Int) := furlongref01_First.l0 k a0 0 0
theorem furlongref01_First.mono_l : ∀ k, (∀ y0 y1 y2, LeO (furlongref01_First.l0 k y0 y1 y2) (furlongref01_First.l0 (k + 1) y0 y1 y2))
  | 0 => fun _ _ _ r h => by simp [furlongref01_First.l0] at h
  | k + 1 => by
    have ih0 := furlongref01_First.mono_l k
    · intro y0 y1 y2
      unfold furlongref01_First.l0
      repeat' first
      | (with_reducible exact ih0 _ _ _)
      | (with_reducible exact LeO.refl _)
      | (with_reducible exact LeO.none _)
      | (with_reducible refine LeO.ite ?_ ?_)
      | (with_reducible refine LeO.bind ?_ (fun _ => ?_))
      | exact ih0 _ _ _
      | exact LeO.none _
      | refine LeO.ite ?_ ?_
      | refine LeO.bind ?_ (fun _ => ?_)
theorem furlongref01_First.mono : ∀ a0 k, LeO (furlongref01_First.f k a0) (furlongref01_First.f (k + 1) a0) := by
  intro a0 k
  have ih0 := furlongref01_First.mono_l k
  unfold furlongref01_First.f
  repeat' first
      | (with_reducible exact ih0 _ _ _)
      | (with_reducible exact LeO.refl _)
      | (with_reducible exact LeO.none _)
      | (with_reducible refine LeO.ite ?_ ?_)
      | (with_reducible refine LeO.bind ?_ (fun _ => ?_))
      | exact ih0 _ _ _
      | exact LeO.none _
      | refine LeO.ite ?_ ?_
      | refine LeO.bind ?_ (fun _ => ?_)
set_option maxHeartbeats 8000000 in
set_option maxRecDepth 100000 in
theorem furlongref01_First.calls (k : Nat) (a0 : ByteArray) (r1 : ByteArray) (r2 : ByteArray) (r3 : Int) (w : World) (h : furlongref01_First.f k a0 = some (r1, r2, r3)) :
    Calls Tryz.prog 69 #[.string a0] w fun e w' => e = .returned (.tuple #[.string r1, .string r2, .int .i64 r3]) ∧ Drawn0 w w' := by
  have H : (furlongref01_First.l0 k a0 0 0) = some (r1, r2, r3) := h
  clear h
  have H' := Aside0.mk H
  clear H
  go_enter Tryz.func69, Tryz.ntmps69
  go_wp2
  repeat (go_quiet (fail); try go_wp2)
  go_loopg [5, 6] k (fun kq v5 v6 w' => ∃ (x5_1 : Int) (x6_1 : Int), v5 = .int .i64 x5_1 ∧ v6 = .int .i64 x6_1 ∧ Aside0 (furlongref01_First.l0 kq a0 x5_1 x6_1 = some (r1, r2, r3)) ∧ Aside0 (kq ≤ k) ∧ Drawn0 w w')
  case atStart => exact ⟨(0), (0), (by first | rfl | (simp; done) | (simp [*]; done)), (by first | rfl | (simp; done) | (simp [*]; done)), H', ⟨Nat.le_refl _⟩, by repeat (first | exact Drawn0.refl _ | apply Drawn0.step)⟩
  case round =>
    clear H'
    obtain ⟨x5_1, x6_1, rfl, rfl, HA, HK1, ⟨m1, rfl⟩⟩ := hrel
    cases gk with
    | zero => exact absurd HA.out (by simp [furlongref01_First.l0])
    | succ k1 =>
      have H := HA.out
      clear HA
      simp only [furlongref01_First.l0] at H
      by_cases c2 : x6_1 < (a0.size : Int)
      · rw [if_pos c2] at H
        have c2b0 : decide (x6_1 < (a0.size : Int)) = true := decide_eq_true c2
        clear c2
        by_cases c3 : x6_1 < 8
        · rw [if_pos c3] at H
          have c3b0 : decide (x6_1 < 8) = true := decide_eq_true c3
          clear c3
          by_cases c4 : 0 ≤ x6_1
          · rw [if_pos c4] at H
            have c4b0 : decide (0 ≤ x6_1) = true := decide_eq_true c4
            clear c4
            by_cases c6 : (bt a0 x6_1) ≥ 48
            · rw [if_pos c6] at H
              have c6b0 : decide (48 ≤ (bt a0 x6_1)) = true := decide_eq_true c6
              clear c6
              by_cases c8 : (bt a0 x6_1) ≤ 57
              · rw [if_pos c8] at H
                have c8b0 : decide ((bt a0 x6_1) ≤ 57) = true := decide_eq_true c8
                clear c8
                have H' := Aside0.mk H
                clear H
                have p5 : 0 ≤ (x6_1 : Int) := of_decide_eq_true (by first | (with_reducible assumption) | assumption)
                have q5 : x6_1 < (a0.size : Int) := of_decide_eq_true (by first | (with_reducible assumption) | assumption)
                have hx5 := bt_at a0 x6_1
                replace p5 := eq_true p5
                replace q5 := eq_true q5
                have p7 : 0 ≤ (x6_1 : Int) := of_decide_eq_true (by first | (with_reducible assumption) | assumption)
                have q7 : x6_1 < (a0.size : Int) := of_decide_eq_true (by first | (with_reducible assumption) | assumption)
                have hx7 := bt_at a0 x6_1
                replace p7 := eq_true p7
                replace q7 := eq_true q7
                have p9 : 0 ≤ (x6_1 : Int) := of_decide_eq_true (by first | (with_reducible assumption) | assumption)
                have q9 : x6_1 < (a0.size : Int) := of_decide_eq_true (by first | (with_reducible assumption) | assumption)
                have hx9 := bt_at a0 x6_1
                replace p9 := eq_true p9
                replace q9 := eq_true q9
                go_wp2
                repeat (go_quiet (fail); try go_wp2)
                go_roundg k1
                case measure => have := HK1.out; omega
                case rel => exact ⟨(wrap64 ((wrap64 (10 * x5_1)) + (((bt a0 x6_1) - 48) % 256))), (wrap64 (x6_1 + 1)), (by first | rfl | (simp; done) | (simp [*]; done)), (by first | rfl | (simp; done) | (simp [*]; done)), H', ⟨by have := HK1.out; omega⟩, by repeat (first | exact Drawn0.refl _ | apply Drawn0.step)⟩
              · rw [if_neg c8] at H
                have c8b0 : decide ((bt a0 x6_1) ≤ 57) = false := decide_eq_false c8
                clear c8
                by_cases c10 : x6_1 = 0
                · rw [if_pos c10] at H
                  have c10b0 : (x6_1 == 0) = true := beq_iff_eq.mpr c10
                  have c10b1 : (x6_1 != 0) = false := bne_eq_false_iff_eq.mpr c10
                  clear c10
                  simp only [Option.some.injEq, Prod.mk.injEq] at H
                  obtain ⟨rfl, rfl, rfl⟩ := H
                  have p5 : 0 ≤ (x6_1 : Int) := of_decide_eq_true (by first | (with_reducible assumption) | assumption)
                  have q5 : x6_1 < (a0.size : Int) := of_decide_eq_true (by first | (with_reducible assumption) | assumption)
                  have hx5 := bt_at a0 x6_1
                  replace p5 := eq_true p5
                  replace q5 := eq_true q5
                  have p7 : 0 ≤ (x6_1 : Int) := of_decide_eq_true (by first | (with_reducible assumption) | assumption)
                  have q7 : x6_1 < (a0.size : Int) := of_decide_eq_true (by first | (with_reducible assumption) | assumption)
                  have hx7 := bt_at a0 x6_1
                  replace p7 := eq_true p7
                  replace q7 := eq_true q7
                  go_wp2
                  repeat (go_quiet (fail); try go_wp2)
                  go_ret3
                  exact ⟨by first | rfl | (simp; done) | (simp [*]; done), by repeat (first | exact Drawn0.refl _ | apply Drawn0.step)⟩
                · rw [if_neg c10] at H
                  have c10b0 : (x6_1 == 0) = false := beq_eq_false_iff_ne.mpr c10
                  have c10b1 : (x6_1 != 0) = true := bne_iff_ne.mpr c10
                  by_cases c11 : x6_1 = (a0.size : Int)
                  · rw [if_pos c11] at H
                    have c11b0 : (x6_1 == (a0.size : Int)) = true := beq_iff_eq.mpr c11
                    have c11b1 : (x6_1 != (a0.size : Int)) = false := bne_eq_false_iff_eq.mpr c11
                    clear c11
                    simp only [Option.some.injEq, Prod.mk.injEq] at H
                    obtain ⟨rfl, rfl, rfl⟩ := H
                    have p5 : 0 ≤ (x6_1 : Int) := of_decide_eq_true (by first | (with_reducible assumption) | assumption)
                    have q5 : x6_1 < (a0.size : Int) := of_decide_eq_true (by first | (with_reducible assumption) | assumption)
                    have hx5 := bt_at a0 x6_1
                    replace p5 := eq_true p5
                    replace q5 := eq_true q5
                    have p7 : 0 ≤ (x6_1 : Int) := of_decide_eq_true (by first | (with_reducible assumption) | assumption)
                    have q7 : x6_1 < (a0.size : Int) := of_decide_eq_true (by first | (with_reducible assumption) | assumption)
                    have hx7 := bt_at a0 x6_1
                    replace p7 := eq_true p7
                    replace q7 := eq_true q7
                    go_wp2
                    repeat (go_quiet (fail); try go_wp2)
                    go_ret3
                    exact ⟨by first | rfl | (simp; done) | (simp [*]; done), by repeat (first | exact Drawn0.refl _ | apply Drawn0.step)⟩
                  · rw [if_neg c11] at H
                    have c11b0 : (x6_1 == (a0.size : Int)) = false := beq_eq_false_iff_ne.mpr c11
                    have c11b1 : (x6_1 != (a0.size : Int)) = true := bne_iff_ne.mpr c11
                    by_cases c13 : (bt a0 x6_1) = 58
                    · rw [if_pos c13] at H
                      have c13b0 : ((bt a0 x6_1) == 58) = true := beq_iff_eq.mpr c13
                      have c13b1 : ((bt a0 x6_1) != 58) = false := bne_eq_false_iff_eq.mpr c13
                      clear c13
                      by_cases c14 : x6_1 > 1
                      · rw [if_pos c14] at H
                        have c14b0 : decide (1 < x6_1) = true := decide_eq_true c14
                        clear c14
                        by_cases c15 : 0 < (a0.size : Int)
                        · rw [if_pos c15] at H
                          have c15b0 : decide (0 < (a0.size : Int)) = true := decide_eq_true c15
                          have c15b1 : decide (0 < a0.size) = true := decide_eq_true (by omega)
                          clear c15
                          by_cases c17 : (bt a0 0) = 48
                          · rw [if_pos c17] at H
                            have c17b0 : ((bt a0 0) == 48) = true := beq_iff_eq.mpr c17
                            have c17b1 : ((bt a0 0) != 48) = false := bne_eq_false_iff_eq.mpr c17
                            clear c17
                            simp only [Option.some.injEq, Prod.mk.injEq] at H
                            obtain ⟨rfl, rfl, rfl⟩ := H
                            have p5 : 0 ≤ (x6_1 : Int) := of_decide_eq_true (by first | (with_reducible assumption) | assumption)
                            have q5 : x6_1 < (a0.size : Int) := of_decide_eq_true (by first | (with_reducible assumption) | assumption)
                            have hx5 := bt_at a0 x6_1
                            replace p5 := eq_true p5
                            replace q5 := eq_true q5
                            have p7 : 0 ≤ (x6_1 : Int) := of_decide_eq_true (by first | (with_reducible assumption) | assumption)
                            have q7 : x6_1 < (a0.size : Int) := of_decide_eq_true (by first | (with_reducible assumption) | assumption)
                            have hx7 := bt_at a0 x6_1
                            replace p7 := eq_true p7
                            replace q7 := eq_true q7
                            have p12 : 0 ≤ (x6_1 : Int) := of_decide_eq_true (by first | (with_reducible assumption) | assumption)
                            have q12 : x6_1 < (a0.size : Int) := of_decide_eq_true (by first | (with_reducible assumption) | assumption)
                            have hx12 := bt_at a0 x6_1
                            replace p12 := eq_true p12
                            replace q12 := eq_true q12
                            have p16 : 0 ≤ (0 : Int) := (by omega)
                            have q16 : 0 < a0.size := (by have : (0 : Int) < (a0.size : Int) := of_decide_eq_true (by first | (with_reducible assumption) | assumption); omega)
                            have hx16 : ∀ h : 0 < a0.size, ((a0[0]'h).toNat : Int) = bt a0 0 := bt_at a0 0
                            clear p16
                            have qi16 : (0 < (a0.size : Int)) = True := eq_true (of_decide_eq_true (by first | (with_reducible assumption) | assumption))
                            replace q16 := eq_true q16
                            go_wp2
                            repeat (go_quiet (fail); try go_wp2)
                            go_ret3
                            exact ⟨by first | rfl | (simp; done) | (simp [*]; done), by repeat (first | exact Drawn0.refl _ | apply Drawn0.step)⟩
                          · rw [if_neg c17] at H
                            have c17b0 : ((bt a0 0) == 48) = false := beq_eq_false_iff_ne.mpr c17
                            have c17b1 : ((bt a0 0) != 48) = true := bne_iff_ne.mpr c17
                            by_cases c18 : x5_1 > (wrap64 ((wrap64 ((a0.size : Int) - x6_1)) - 2))
                            · rw [if_pos c18] at H
                              have c18b0 : decide ((wrap64 ((wrap64 ((a0.size : Int) - x6_1)) - 2)) < x5_1) = true := decide_eq_true c18
                              clear c18
                              simp only [Option.some.injEq, Prod.mk.injEq] at H
                              obtain ⟨rfl, rfl, rfl⟩ := H
                              have p5 : 0 ≤ (x6_1 : Int) := of_decide_eq_true (by first | (with_reducible assumption) | assumption)
                              have q5 : x6_1 < (a0.size : Int) := of_decide_eq_true (by first | (with_reducible assumption) | assumption)
                              have hx5 := bt_at a0 x6_1
                              replace p5 := eq_true p5
                              replace q5 := eq_true q5
                              have p7 : 0 ≤ (x6_1 : Int) := of_decide_eq_true (by first | (with_reducible assumption) | assumption)
                              have q7 : x6_1 < (a0.size : Int) := of_decide_eq_true (by first | (with_reducible assumption) | assumption)
                              have hx7 := bt_at a0 x6_1
                              replace p7 := eq_true p7
                              replace q7 := eq_true q7
                              have p12 : 0 ≤ (x6_1 : Int) := of_decide_eq_true (by first | (with_reducible assumption) | assumption)
                              have q12 : x6_1 < (a0.size : Int) := of_decide_eq_true (by first | (with_reducible assumption) | assumption)
                              have hx12 := bt_at a0 x6_1
                              replace p12 := eq_true p12
                              replace q12 := eq_true q12
                              have p16 : 0 ≤ (0 : Int) := (by omega)
                              have q16 : 0 < a0.size := (by have : (0 : Int) < (a0.size : Int) := of_decide_eq_true (by first | (with_reducible assumption) | assumption); omega)
                              have hx16 : ∀ h : 0 < a0.size, ((a0[0]'h).toNat : Int) = bt a0 0 := bt_at a0 0
                              clear p16
                              have qi16 : (0 < (a0.size : Int)) = True := eq_true (of_decide_eq_true (by first | (with_reducible assumption) | assumption))
                              replace q16 := eq_true q16
                              go_wp2
                              repeat (go_quiet (fail); try go_wp2)
                              go_ret3
                              exact ⟨by first | rfl | (simp; done) | (simp [*]; done), by repeat (first | exact Drawn0.refl _ | apply Drawn0.step)⟩
                            · rw [if_neg c18] at H
                              have c18b0 : decide ((wrap64 ((wrap64 ((a0.size : Int) - x6_1)) - 2)) < x5_1) = false := decide_eq_false c18
                              clear c18
                              by_cases c19 : x5_1 > (wrap64 ((wrap64 (1048576 - x6_1)) - 2))
                              · rw [if_pos c19] at H
                                have c19b0 : decide ((wrap64 ((wrap64 (1048576 - x6_1)) - 2)) < x5_1) = true := decide_eq_true c19
                                clear c19
                                simp only [Option.some.injEq, Prod.mk.injEq] at H
                                obtain ⟨rfl, rfl, rfl⟩ := H
                                have p5 : 0 ≤ (x6_1 : Int) := of_decide_eq_true (by first | (with_reducible assumption) | assumption)
                                have q5 : x6_1 < (a0.size : Int) := of_decide_eq_true (by first | (with_reducible assumption) | assumption)
                                have hx5 := bt_at a0 x6_1
                                replace p5 := eq_true p5
                                replace q5 := eq_true q5
                                have p7 : 0 ≤ (x6_1 : Int) := of_decide_eq_true (by first | (with_reducible assumption) | assumption)
                                have q7 : x6_1 < (a0.size : Int) := of_decide_eq_true (by first | (with_reducible assumption) | assumption)
                                have hx7 := bt_at a0 x6_1
                                replace p7 := eq_true p7
                                replace q7 := eq_true q7
                                have p12 : 0 ≤ (x6_1 : Int) := of_decide_eq_true (by first | (with_reducible assumption) | assumption)
                                have q12 : x6_1 < (a0.size : Int) := of_decide_eq_true (by first | (with_reducible assumption) | assumption)
                                have hx12 := bt_at a0 x6_1
                                replace p12 := eq_true p12
                                replace q12 := eq_true q12
                                have p16 : 0 ≤ (0 : Int) := (by omega)
                                have q16 : 0 < a0.size := (by have : (0 : Int) < (a0.size : Int) := of_decide_eq_true (by first | (with_reducible assumption) | assumption); omega)
                                have hx16 : ∀ h : 0 < a0.size, ((a0[0]'h).toNat : Int) = bt a0 0 := bt_at a0 0
                                clear p16
                                have qi16 : (0 < (a0.size : Int)) = True := eq_true (of_decide_eq_true (by first | (with_reducible assumption) | assumption))
                                replace q16 := eq_true q16
                                go_wp2
                                repeat (go_quiet (fail); try go_wp2)
                                go_ret3
                                exact ⟨by first | rfl | (simp; done) | (simp [*]; done), by repeat (first | exact Drawn0.refl _ | apply Drawn0.step)⟩
                              · rw [if_neg c19] at H
                                have c19b0 : decide ((wrap64 ((wrap64 (1048576 - x6_1)) - 2)) < x5_1) = false := decide_eq_false c19
                                clear c19
                                obtain ⟨ji20, hji20⟩ : ∃ j_ : Int, (wrap64 ((wrap64 (x6_1 + 1)) + x5_1)) = j_ := ⟨_, rfl⟩
                                replace H : (if 0 ≤ (ji20) then (if (ji20) < (a0.size : Int) then (if (bt a0 (ji20)) = 44 then (if 0 ≤ (wrap64 (x6_1 + 1)) then (if (wrap64 (x6_1 + 1)) ≤ (ji20) then (if (ji20) ≤ (a0.size : Int) then (if 0 ≤ (wrap64 ((wrap64 (x6_1 + 2)) + x5_1)) then (if (wrap64 ((wrap64 (x6_1 + 2)) + x5_1)) ≤ (a0.size : Int) then (some (a0.extract ((wrap64 (x6_1 + 1)) : Int).toNat ((ji20) : Int).toNat, a0.extract ((wrap64 ((wrap64 (x6_1 + 2)) + x5_1)) : Int).toNat a0.size, 0)) else (none)) else (none)) else (none)) else (none)) else (none)) else (some ((⟨#[]⟩ : ByteArray), a0, 10))) else (none)) else (none)) = some (r1, r2, r3) := by first | (rw [hji20] at H; exact H) | (simp only [hji20] at H ⊢; exact H)
                                have hji20w : (IntKind.i64.wrap ((wrap64 (x6_1 + 1)) + x5_1)) = ji20 := (i64_w _).trans hji20
                                by_cases c21 : 0 ≤ (ji20)
                                · rw [if_pos c21] at H
                                  have c21b0 : decide (0 ≤ (ji20)) = true := decide_eq_true c21
                                  clear c21
                                  by_cases c22 : (ji20) < (a0.size : Int)
                                  · rw [if_pos c22] at H
                                    have c22b0 : decide ((ji20) < (a0.size : Int)) = true := decide_eq_true c22
                                    clear c22
                                    by_cases c24 : (bt a0 (ji20)) = 44
                                    · rw [if_pos c24] at H
                                      have c24b0 : ((bt a0 (ji20)) == 44) = true := beq_iff_eq.mpr c24
                                      have c24b1 : ((bt a0 (ji20)) != 44) = false := bne_eq_false_iff_eq.mpr c24
                                      clear c24
                                      obtain ⟨ji25, hji25⟩ : ∃ j_ : Int, (wrap64 (x6_1 + 1)) = j_ := ⟨_, rfl⟩
                                      replace H : (if 0 ≤ (ji25) then (if (ji25) ≤ (ji20) then (if (ji20) ≤ (a0.size : Int) then (if 0 ≤ (wrap64 ((wrap64 (x6_1 + 2)) + x5_1)) then (if (wrap64 ((wrap64 (x6_1 + 2)) + x5_1)) ≤ (a0.size : Int) then (some (a0.extract ((ji25) : Int).toNat ((ji20) : Int).toNat, a0.extract ((wrap64 ((wrap64 (x6_1 + 2)) + x5_1)) : Int).toNat a0.size, 0)) else (none)) else (none)) else (none)) else (none)) else (none)) = some (r1, r2, r3) := by first | (rw [hji25] at H; exact H) | (simp only [hji25] at H ⊢; exact H)
                                      have hji25w : (IntKind.i64.wrap (x6_1 + 1)) = ji25 := (i64_w _).trans hji25
                                      have hji20vji25 : (wrap64 (ji25 + x5_1)) = ji20 := by rw [← hji25]; exact hji20
                                      have hji20xji25 : (IntKind.i64.wrap (ji25 + x5_1)) = ji20 := by rw [← hji25]; exact hji20w
                                      by_cases c26 : 0 ≤ (ji25)
                                      · rw [if_pos c26] at H
                                        have c26b0 := eq_true c26
                                        have c26b1 : decide (0 ≤ (ji25)) = true := decide_eq_true c26
                                        clear c26
                                        by_cases c27 : (ji25) ≤ (ji20)
                                        · rw [if_pos c27] at H
                                          have c27b0 := eq_true c27
                                          have c27b1 : decide ((ji25) ≤ (ji20)) = true := decide_eq_true c27
                                          clear c27
                                          by_cases c28 : (ji20) ≤ (a0.size : Int)
                                          · rw [if_pos c28] at H
                                            have c28b0 := eq_true c28
                                            have c28b1 : decide ((ji20) ≤ (a0.size : Int)) = true := decide_eq_true c28
                                            clear c28
                                            obtain ⟨ji29, hji29⟩ : ∃ j_ : Int, (wrap64 ((wrap64 (x6_1 + 2)) + x5_1)) = j_ := ⟨_, rfl⟩
                                            replace H : (if 0 ≤ (ji29) then (if (ji29) ≤ (a0.size : Int) then (some (a0.extract ((ji25) : Int).toNat ((ji20) : Int).toNat, a0.extract ((ji29) : Int).toNat a0.size, 0)) else (none)) else (none)) = some (r1, r2, r3) := by first | (rw [hji29] at H; exact H) | (simp only [hji29] at H ⊢; exact H)
                                            have hji29w : (IntKind.i64.wrap ((wrap64 (x6_1 + 2)) + x5_1)) = ji29 := (i64_w _).trans hji29
                                            by_cases c30 : 0 ≤ (ji29)
                                            · rw [if_pos c30] at H
                                              have c30b0 := eq_true c30
                                              have c30b1 : decide (0 ≤ (ji29)) = true := decide_eq_true c30
                                              clear c30
                                              by_cases c31 : (ji29) ≤ (a0.size : Int)
                                              · rw [if_pos c31] at H
                                                have c31b0 := eq_true c31
                                                have c31b1 : decide ((ji29) ≤ (a0.size : Int)) = true := decide_eq_true c31
                                                clear c31
                                                simp only [Option.some.injEq, Prod.mk.injEq] at H
                                                obtain ⟨rfl, rfl, rfl⟩ := H
                                                have p5 : 0 ≤ (x6_1 : Int) := of_decide_eq_true (by first | (with_reducible assumption) | assumption)
                                                have q5 : x6_1 < (a0.size : Int) := of_decide_eq_true (by first | (with_reducible assumption) | assumption)
                                                have hx5 := bt_at a0 x6_1
                                                replace p5 := eq_true p5
                                                replace q5 := eq_true q5
                                                have p7 : 0 ≤ (x6_1 : Int) := of_decide_eq_true (by first | (with_reducible assumption) | assumption)
                                                have q7 : x6_1 < (a0.size : Int) := of_decide_eq_true (by first | (with_reducible assumption) | assumption)
                                                have hx7 := bt_at a0 x6_1
                                                replace p7 := eq_true p7
                                                replace q7 := eq_true q7
                                                have p12 : 0 ≤ (x6_1 : Int) := of_decide_eq_true (by first | (with_reducible assumption) | assumption)
                                                have q12 : x6_1 < (a0.size : Int) := of_decide_eq_true (by first | (with_reducible assumption) | assumption)
                                                have hx12 := bt_at a0 x6_1
                                                replace p12 := eq_true p12
                                                replace q12 := eq_true q12
                                                have p16 : 0 ≤ (0 : Int) := (by omega)
                                                have q16 : 0 < a0.size := (by have : (0 : Int) < (a0.size : Int) := of_decide_eq_true (by first | (with_reducible assumption) | assumption); omega)
                                                have hx16 : ∀ h : 0 < a0.size, ((a0[0]'h).toNat : Int) = bt a0 0 := bt_at a0 0
                                                clear p16
                                                have qi16 : (0 < (a0.size : Int)) = True := eq_true (of_decide_eq_true (by first | (with_reducible assumption) | assumption))
                                                replace q16 := eq_true q16
                                                have p23 : 0 ≤ ((ji20) : Int) := of_decide_eq_true (by first | (with_reducible assumption) | assumption)
                                                have q23 : (ji20) < (a0.size : Int) := of_decide_eq_true (by first | (with_reducible assumption) | assumption)
                                                have hx23 := bt_at a0 (ji20)
                                                replace p23 := eq_true p23
                                                replace q23 := eq_true q23
                                                go_wp2
                                                repeat (go_quiet (fail); try go_wp2)
                                                go_ret3
                                                exact ⟨by first | rfl | (simp; done) | (simp only [← hji20, ← hji25, ← hji29] <;> (first | rfl | simp)) | (simp [*]; done), by repeat (first | exact Drawn0.refl _ | apply Drawn0.step)⟩
                                              · rw [if_neg c31] at H
                                                exact absurd H (by simp)
                                            · rw [if_neg c30] at H
                                              exact absurd H (by simp)
                                          · rw [if_neg c28] at H
                                            exact absurd H (by simp)
                                        · rw [if_neg c27] at H
                                          exact absurd H (by simp)
                                      · rw [if_neg c26] at H
                                        exact absurd H (by simp)
                                    · rw [if_neg c24] at H
                                      have c24b0 : ((bt a0 (ji20)) == 44) = false := beq_eq_false_iff_ne.mpr c24
                                      have c24b1 : ((bt a0 (ji20)) != 44) = true := bne_iff_ne.mpr c24
                                      simp only [Option.some.injEq, Prod.mk.injEq] at H
                                      obtain ⟨rfl, rfl, rfl⟩ := H
                                      have p5 : 0 ≤ (x6_1 : Int) := of_decide_eq_true (by first | (with_reducible assumption) | assumption)
                                      have q5 : x6_1 < (a0.size : Int) := of_decide_eq_true (by first | (with_reducible assumption) | assumption)
                                      have hx5 := bt_at a0 x6_1
                                      replace p5 := eq_true p5
                                      replace q5 := eq_true q5
                                      have p7 : 0 ≤ (x6_1 : Int) := of_decide_eq_true (by first | (with_reducible assumption) | assumption)
                                      have q7 : x6_1 < (a0.size : Int) := of_decide_eq_true (by first | (with_reducible assumption) | assumption)
                                      have hx7 := bt_at a0 x6_1
                                      replace p7 := eq_true p7
                                      replace q7 := eq_true q7
                                      have p12 : 0 ≤ (x6_1 : Int) := of_decide_eq_true (by first | (with_reducible assumption) | assumption)
                                      have q12 : x6_1 < (a0.size : Int) := of_decide_eq_true (by first | (with_reducible assumption) | assumption)
                                      have hx12 := bt_at a0 x6_1
                                      replace p12 := eq_true p12
                                      replace q12 := eq_true q12
                                      have p16 : 0 ≤ (0 : Int) := (by omega)
                                      have q16 : 0 < a0.size := (by have : (0 : Int) < (a0.size : Int) := of_decide_eq_true (by first | (with_reducible assumption) | assumption); omega)
                                      have hx16 : ∀ h : 0 < a0.size, ((a0[0]'h).toNat : Int) = bt a0 0 := bt_at a0 0
                                      clear p16
                                      have qi16 : (0 < (a0.size : Int)) = True := eq_true (of_decide_eq_true (by first | (with_reducible assumption) | assumption))
                                      replace q16 := eq_true q16
                                      have p23 : 0 ≤ ((ji20) : Int) := of_decide_eq_true (by first | (with_reducible assumption) | assumption)
                                      have q23 : (ji20) < (a0.size : Int) := of_decide_eq_true (by first | (with_reducible assumption) | assumption)
                                      have hx23 := bt_at a0 (ji20)
                                      replace p23 := eq_true p23
                                      replace q23 := eq_true q23
                                      go_wp2
                                      repeat (go_quiet (fail); try go_wp2)
                                      go_ret3
                                      exact ⟨by first | rfl | (simp; done) | (simp only [← hji20] <;> (first | rfl | simp)) | (simp [*]; done), by repeat (first | exact Drawn0.refl _ | apply Drawn0.step)⟩
                                  · rw [if_neg c22] at H
                                    exact absurd H (by simp)
                                · rw [if_neg c21] at H
                                  exact absurd H (by simp)
                        · rw [if_neg c15] at H
                          exact absurd H (by simp)
                      · rw [if_neg c14] at H
                        have c14b0 : decide (1 < x6_1) = false := decide_eq_false c14
                        clear c14
                        by_cases c32 : x5_1 > (wrap64 ((wrap64 ((a0.size : Int) - x6_1)) - 2))
                        · rw [if_pos c32] at H
                          have c32b0 : decide ((wrap64 ((wrap64 ((a0.size : Int) - x6_1)) - 2)) < x5_1) = true := decide_eq_true c32
                          clear c32
                          simp only [Option.some.injEq, Prod.mk.injEq] at H
                          obtain ⟨rfl, rfl, rfl⟩ := H
                          have p5 : 0 ≤ (x6_1 : Int) := of_decide_eq_true (by first | (with_reducible assumption) | assumption)
                          have q5 : x6_1 < (a0.size : Int) := of_decide_eq_true (by first | (with_reducible assumption) | assumption)
                          have hx5 := bt_at a0 x6_1
                          replace p5 := eq_true p5
                          replace q5 := eq_true q5
                          have p7 : 0 ≤ (x6_1 : Int) := of_decide_eq_true (by first | (with_reducible assumption) | assumption)
                          have q7 : x6_1 < (a0.size : Int) := of_decide_eq_true (by first | (with_reducible assumption) | assumption)
                          have hx7 := bt_at a0 x6_1
                          replace p7 := eq_true p7
                          replace q7 := eq_true q7
                          have p12 : 0 ≤ (x6_1 : Int) := of_decide_eq_true (by first | (with_reducible assumption) | assumption)
                          have q12 : x6_1 < (a0.size : Int) := of_decide_eq_true (by first | (with_reducible assumption) | assumption)
                          have hx12 := bt_at a0 x6_1
                          replace p12 := eq_true p12
                          replace q12 := eq_true q12
                          go_wp2
                          repeat (go_quiet (fail); try go_wp2)
                          go_ret3
                          exact ⟨by first | rfl | (simp; done) | (simp [*]; done), by repeat (first | exact Drawn0.refl _ | apply Drawn0.step)⟩
                        · rw [if_neg c32] at H
                          have c32b0 : decide ((wrap64 ((wrap64 ((a0.size : Int) - x6_1)) - 2)) < x5_1) = false := decide_eq_false c32
                          clear c32
                          by_cases c33 : x5_1 > (wrap64 ((wrap64 (1048576 - x6_1)) - 2))
                          · rw [if_pos c33] at H
                            have c33b0 : decide ((wrap64 ((wrap64 (1048576 - x6_1)) - 2)) < x5_1) = true := decide_eq_true c33
                            clear c33
                            simp only [Option.some.injEq, Prod.mk.injEq] at H
                            obtain ⟨rfl, rfl, rfl⟩ := H
                            have p5 : 0 ≤ (x6_1 : Int) := of_decide_eq_true (by first | (with_reducible assumption) | assumption)
                            have q5 : x6_1 < (a0.size : Int) := of_decide_eq_true (by first | (with_reducible assumption) | assumption)
                            have hx5 := bt_at a0 x6_1
                            replace p5 := eq_true p5
                            replace q5 := eq_true q5
                            have p7 : 0 ≤ (x6_1 : Int) := of_decide_eq_true (by first | (with_reducible assumption) | assumption)
                            have q7 : x6_1 < (a0.size : Int) := of_decide_eq_true (by first | (with_reducible assumption) | assumption)
                            have hx7 := bt_at a0 x6_1
                            replace p7 := eq_true p7
                            replace q7 := eq_true q7
                            have p12 : 0 ≤ (x6_1 : Int) := of_decide_eq_true (by first | (with_reducible assumption) | assumption)
                            have q12 : x6_1 < (a0.size : Int) := of_decide_eq_true (by first | (with_reducible assumption) | assumption)
                            have hx12 := bt_at a0 x6_1
                            replace p12 := eq_true p12
                            replace q12 := eq_true q12
                            go_wp2
                            repeat (go_quiet (fail); try go_wp2)
                            go_ret3
                            exact ⟨by first | rfl | (simp; done) | (simp [*]; done), by repeat (first | exact Drawn0.refl _ | apply Drawn0.step)⟩
                          · rw [if_neg c33] at H
                            have c33b0 : decide ((wrap64 ((wrap64 (1048576 - x6_1)) - 2)) < x5_1) = false := decide_eq_false c33
                            clear c33
                            obtain ⟨ji34, hji34⟩ : ∃ j_ : Int, (wrap64 ((wrap64 (x6_1 + 1)) + x5_1)) = j_ := ⟨_, rfl⟩
                            replace H : (if 0 ≤ (ji34) then (if (ji34) < (a0.size : Int) then (if (bt a0 (ji34)) = 44 then (if 0 ≤ (wrap64 (x6_1 + 1)) then (if (wrap64 (x6_1 + 1)) ≤ (ji34) then (if (ji34) ≤ (a0.size : Int) then (if 0 ≤ (wrap64 ((wrap64 (x6_1 + 2)) + x5_1)) then (if (wrap64 ((wrap64 (x6_1 + 2)) + x5_1)) ≤ (a0.size : Int) then (some (a0.extract ((wrap64 (x6_1 + 1)) : Int).toNat ((ji34) : Int).toNat, a0.extract ((wrap64 ((wrap64 (x6_1 + 2)) + x5_1)) : Int).toNat a0.size, 0)) else (none)) else (none)) else (none)) else (none)) else (none)) else (some ((⟨#[]⟩ : ByteArray), a0, 10))) else (none)) else (none)) = some (r1, r2, r3) := by first | (rw [hji34] at H; exact H) | (simp only [hji34] at H ⊢; exact H)
                            have hji34w : (IntKind.i64.wrap ((wrap64 (x6_1 + 1)) + x5_1)) = ji34 := (i64_w _).trans hji34
                            by_cases c35 : 0 ≤ (ji34)
                            · rw [if_pos c35] at H
                              have c35b0 : decide (0 ≤ (ji34)) = true := decide_eq_true c35
                              clear c35
                              by_cases c36 : (ji34) < (a0.size : Int)
                              · rw [if_pos c36] at H
                                have c36b0 : decide ((ji34) < (a0.size : Int)) = true := decide_eq_true c36
                                clear c36
                                by_cases c38 : (bt a0 (ji34)) = 44
                                · rw [if_pos c38] at H
                                  have c38b0 : ((bt a0 (ji34)) == 44) = true := beq_iff_eq.mpr c38
                                  have c38b1 : ((bt a0 (ji34)) != 44) = false := bne_eq_false_iff_eq.mpr c38
                                  clear c38
                                  obtain ⟨ji39, hji39⟩ : ∃ j_ : Int, (wrap64 (x6_1 + 1)) = j_ := ⟨_, rfl⟩
                                  replace H : (if 0 ≤ (ji39) then (if (ji39) ≤ (ji34) then (if (ji34) ≤ (a0.size : Int) then (if 0 ≤ (wrap64 ((wrap64 (x6_1 + 2)) + x5_1)) then (if (wrap64 ((wrap64 (x6_1 + 2)) + x5_1)) ≤ (a0.size : Int) then (some (a0.extract ((ji39) : Int).toNat ((ji34) : Int).toNat, a0.extract ((wrap64 ((wrap64 (x6_1 + 2)) + x5_1)) : Int).toNat a0.size, 0)) else (none)) else (none)) else (none)) else (none)) else (none)) = some (r1, r2, r3) := by first | (rw [hji39] at H; exact H) | (simp only [hji39] at H ⊢; exact H)
                                  have hji39w : (IntKind.i64.wrap (x6_1 + 1)) = ji39 := (i64_w _).trans hji39
                                  have hji34vji39 : (wrap64 (ji39 + x5_1)) = ji34 := by rw [← hji39]; exact hji34
                                  have hji34xji39 : (IntKind.i64.wrap (ji39 + x5_1)) = ji34 := by rw [← hji39]; exact hji34w
                                  by_cases c40 : 0 ≤ (ji39)
                                  · rw [if_pos c40] at H
                                    have c40b0 := eq_true c40
                                    have c40b1 : decide (0 ≤ (ji39)) = true := decide_eq_true c40
                                    clear c40
                                    by_cases c41 : (ji39) ≤ (ji34)
                                    · rw [if_pos c41] at H
                                      have c41b0 := eq_true c41
                                      have c41b1 : decide ((ji39) ≤ (ji34)) = true := decide_eq_true c41
                                      clear c41
                                      by_cases c42 : (ji34) ≤ (a0.size : Int)
                                      · rw [if_pos c42] at H
                                        have c42b0 := eq_true c42
                                        have c42b1 : decide ((ji34) ≤ (a0.size : Int)) = true := decide_eq_true c42
                                        clear c42
                                        obtain ⟨ji43, hji43⟩ : ∃ j_ : Int, (wrap64 ((wrap64 (x6_1 + 2)) + x5_1)) = j_ := ⟨_, rfl⟩
                                        replace H : (if 0 ≤ (ji43) then (if (ji43) ≤ (a0.size : Int) then (some (a0.extract ((ji39) : Int).toNat ((ji34) : Int).toNat, a0.extract ((ji43) : Int).toNat a0.size, 0)) else (none)) else (none)) = some (r1, r2, r3) := by first | (rw [hji43] at H; exact H) | (simp only [hji43] at H ⊢; exact H)
                                        have hji43w : (IntKind.i64.wrap ((wrap64 (x6_1 + 2)) + x5_1)) = ji43 := (i64_w _).trans hji43
                                        by_cases c44 : 0 ≤ (ji43)
                                        · rw [if_pos c44] at H
                                          have c44b0 := eq_true c44
                                          have c44b1 : decide (0 ≤ (ji43)) = true := decide_eq_true c44
                                          clear c44
                                          by_cases c45 : (ji43) ≤ (a0.size : Int)
                                          · rw [if_pos c45] at H
                                            have c45b0 := eq_true c45
                                            have c45b1 : decide ((ji43) ≤ (a0.size : Int)) = true := decide_eq_true c45
                                            clear c45
                                            simp only [Option.some.injEq, Prod.mk.injEq] at H
                                            obtain ⟨rfl, rfl, rfl⟩ := H
                                            have p5 : 0 ≤ (x6_1 : Int) := of_decide_eq_true (by first | (with_reducible assumption) | assumption)
                                            have q5 : x6_1 < (a0.size : Int) := of_decide_eq_true (by first | (with_reducible assumption) | assumption)
                                            have hx5 := bt_at a0 x6_1
                                            replace p5 := eq_true p5
                                            replace q5 := eq_true q5
                                            have p7 : 0 ≤ (x6_1 : Int) := of_decide_eq_true (by first | (with_reducible assumption) | assumption)
                                            have q7 : x6_1 < (a0.size : Int) := of_decide_eq_true (by first | (with_reducible assumption) | assumption)
                                            have hx7 := bt_at a0 x6_1
                                            replace p7 := eq_true p7
                                            replace q7 := eq_true q7
                                            have p12 : 0 ≤ (x6_1 : Int) := of_decide_eq_true (by first | (with_reducible assumption) | assumption)
                                            have q12 : x6_1 < (a0.size : Int) := of_decide_eq_true (by first | (with_reducible assumption) | assumption)
                                            have hx12 := bt_at a0 x6_1
                                            replace p12 := eq_true p12
                                            replace q12 := eq_true q12
                                            have p37 : 0 ≤ ((ji34) : Int) := of_decide_eq_true (by first | (with_reducible assumption) | assumption)
                                            have q37 : (ji34) < (a0.size : Int) := of_decide_eq_true (by first | (with_reducible assumption) | assumption)
                                            have hx37 := bt_at a0 (ji34)
                                            replace p37 := eq_true p37
                                            replace q37 := eq_true q37
                                            go_wp2
                                            repeat (go_quiet (fail); try go_wp2)
                                            go_ret3
                                            exact ⟨by first | rfl | (simp; done) | (simp only [← hji34, ← hji39, ← hji43] <;> (first | rfl | simp)) | (simp [*]; done), by repeat (first | exact Drawn0.refl _ | apply Drawn0.step)⟩
                                          · rw [if_neg c45] at H
                                            exact absurd H (by simp)
                                        · rw [if_neg c44] at H
                                          exact absurd H (by simp)
                                      · rw [if_neg c42] at H
                                        exact absurd H (by simp)
                                    · rw [if_neg c41] at H
                                      exact absurd H (by simp)
                                  · rw [if_neg c40] at H
                                    exact absurd H (by simp)
                                · rw [if_neg c38] at H
                                  have c38b0 : ((bt a0 (ji34)) == 44) = false := beq_eq_false_iff_ne.mpr c38
                                  have c38b1 : ((bt a0 (ji34)) != 44) = true := bne_iff_ne.mpr c38
                                  simp only [Option.some.injEq, Prod.mk.injEq] at H
                                  obtain ⟨rfl, rfl, rfl⟩ := H
                                  have p5 : 0 ≤ (x6_1 : Int) := of_decide_eq_true (by first | (with_reducible assumption) | assumption)
                                  have q5 : x6_1 < (a0.size : Int) := of_decide_eq_true (by first | (with_reducible assumption) | assumption)
                                  have hx5 := bt_at a0 x6_1
                                  replace p5 := eq_true p5
                                  replace q5 := eq_true q5
                                  have p7 : 0 ≤ (x6_1 : Int) := of_decide_eq_true (by first | (with_reducible assumption) | assumption)
                                  have q7 : x6_1 < (a0.size : Int) := of_decide_eq_true (by first | (with_reducible assumption) | assumption)
                                  have hx7 := bt_at a0 x6_1
                                  replace p7 := eq_true p7
                                  replace q7 := eq_true q7
                                  have p12 : 0 ≤ (x6_1 : Int) := of_decide_eq_true (by first | (with_reducible assumption) | assumption)
                                  have q12 : x6_1 < (a0.size : Int) := of_decide_eq_true (by first | (with_reducible assumption) | assumption)
                                  have hx12 := bt_at a0 x6_1
                                  replace p12 := eq_true p12
                                  replace q12 := eq_true q12
                                  have p37 : 0 ≤ ((ji34) : Int) := of_decide_eq_true (by first | (with_reducible assumption) | assumption)
                                  have q37 : (ji34) < (a0.size : Int) := of_decide_eq_true (by first | (with_reducible assumption) | assumption)
                                  have hx37 := bt_at a0 (ji34)
                                  replace p37 := eq_true p37
                                  replace q37 := eq_true q37
                                  go_wp2
                                  repeat (go_quiet (fail); try go_wp2)
                                  go_ret3
                                  exact ⟨by first | rfl | (simp; done) | (simp only [← hji34] <;> (first | rfl | simp)) | (simp [*]; done), by repeat (first | exact Drawn0.refl _ | apply Drawn0.step)⟩
                              · rw [if_neg c36] at H
                                exact absurd H (by simp)
                            · rw [if_neg c35] at H
                              exact absurd H (by simp)
                    · rw [if_neg c13] at H
                      have c13b0 : ((bt a0 x6_1) == 58) = false := beq_eq_false_iff_ne.mpr c13
                      have c13b1 : ((bt a0 x6_1) != 58) = true := bne_iff_ne.mpr c13
                      simp only [Option.some.injEq, Prod.mk.injEq] at H
                      obtain ⟨rfl, rfl, rfl⟩ := H
                      have p5 : 0 ≤ (x6_1 : Int) := of_decide_eq_true (by first | (with_reducible assumption) | assumption)
                      have q5 : x6_1 < (a0.size : Int) := of_decide_eq_true (by first | (with_reducible assumption) | assumption)
                      have hx5 := bt_at a0 x6_1
                      replace p5 := eq_true p5
                      replace q5 := eq_true q5
                      have p7 : 0 ≤ (x6_1 : Int) := of_decide_eq_true (by first | (with_reducible assumption) | assumption)
                      have q7 : x6_1 < (a0.size : Int) := of_decide_eq_true (by first | (with_reducible assumption) | assumption)
                      have hx7 := bt_at a0 x6_1
                      replace p7 := eq_true p7
                      replace q7 := eq_true q7
                      have p12 : 0 ≤ (x6_1 : Int) := of_decide_eq_true (by first | (with_reducible assumption) | assumption)
                      have q12 : x6_1 < (a0.size : Int) := of_decide_eq_true (by first | (with_reducible assumption) | assumption)
                      have hx12 := bt_at a0 x6_1
                      replace p12 := eq_true p12
                      replace q12 := eq_true q12
                      go_wp2
                      repeat (go_quiet (fail); try go_wp2)
                      go_ret3
                      exact ⟨by first | rfl | (simp; done) | (simp [*]; done), by repeat (first | exact Drawn0.refl _ | apply Drawn0.step)⟩
            · rw [if_neg c6] at H
              have c6b0 : decide (48 ≤ (bt a0 x6_1)) = false := decide_eq_false c6
              clear c6
              by_cases c46 : x6_1 = 0
              · rw [if_pos c46] at H
                have c46b0 : (x6_1 == 0) = true := beq_iff_eq.mpr c46
                have c46b1 : (x6_1 != 0) = false := bne_eq_false_iff_eq.mpr c46
                clear c46
                simp only [Option.some.injEq, Prod.mk.injEq] at H
                obtain ⟨rfl, rfl, rfl⟩ := H
                have p5 : 0 ≤ (x6_1 : Int) := of_decide_eq_true (by first | (with_reducible assumption) | assumption)
                have q5 : x6_1 < (a0.size : Int) := of_decide_eq_true (by first | (with_reducible assumption) | assumption)
                have hx5 := bt_at a0 x6_1
                replace p5 := eq_true p5
                replace q5 := eq_true q5
                go_wp2
                repeat (go_quiet (fail); try go_wp2)
                go_ret3
                exact ⟨by first | rfl | (simp; done) | (simp [*]; done), by repeat (first | exact Drawn0.refl _ | apply Drawn0.step)⟩
              · rw [if_neg c46] at H
                have c46b0 : (x6_1 == 0) = false := beq_eq_false_iff_ne.mpr c46
                have c46b1 : (x6_1 != 0) = true := bne_iff_ne.mpr c46
                by_cases c47 : x6_1 = (a0.size : Int)
                · rw [if_pos c47] at H
                  have c47b0 : (x6_1 == (a0.size : Int)) = true := beq_iff_eq.mpr c47
                  have c47b1 : (x6_1 != (a0.size : Int)) = false := bne_eq_false_iff_eq.mpr c47
                  clear c47
                  simp only [Option.some.injEq, Prod.mk.injEq] at H
                  obtain ⟨rfl, rfl, rfl⟩ := H
                  have p5 : 0 ≤ (x6_1 : Int) := of_decide_eq_true (by first | (with_reducible assumption) | assumption)
                  have q5 : x6_1 < (a0.size : Int) := of_decide_eq_true (by first | (with_reducible assumption) | assumption)
                  have hx5 := bt_at a0 x6_1
                  replace p5 := eq_true p5
                  replace q5 := eq_true q5
                  go_wp2
                  repeat (go_quiet (fail); try go_wp2)
                  go_ret3
                  exact ⟨by first | rfl | (simp; done) | (simp [*]; done), by repeat (first | exact Drawn0.refl _ | apply Drawn0.step)⟩
                · rw [if_neg c47] at H
                  have c47b0 : (x6_1 == (a0.size : Int)) = false := beq_eq_false_iff_ne.mpr c47
                  have c47b1 : (x6_1 != (a0.size : Int)) = true := bne_iff_ne.mpr c47
                  by_cases c49 : (bt a0 x6_1) = 58
                  · rw [if_pos c49] at H
                    have c49b0 : ((bt a0 x6_1) == 58) = true := beq_iff_eq.mpr c49
                    have c49b1 : ((bt a0 x6_1) != 58) = false := bne_eq_false_iff_eq.mpr c49
                    clear c49
                    by_cases c50 : x6_1 > 1
                    · rw [if_pos c50] at H
                      have c50b0 : decide (1 < x6_1) = true := decide_eq_true c50
                      clear c50
                      by_cases c51 : 0 < (a0.size : Int)
                      · rw [if_pos c51] at H
                        have c51b0 : decide (0 < (a0.size : Int)) = true := decide_eq_true c51
                        have c51b1 : decide (0 < a0.size) = true := decide_eq_true (by omega)
                        clear c51
                        by_cases c53 : (bt a0 0) = 48
                        · rw [if_pos c53] at H
                          have c53b0 : ((bt a0 0) == 48) = true := beq_iff_eq.mpr c53
                          have c53b1 : ((bt a0 0) != 48) = false := bne_eq_false_iff_eq.mpr c53
                          clear c53
                          simp only [Option.some.injEq, Prod.mk.injEq] at H
                          obtain ⟨rfl, rfl, rfl⟩ := H
                          have p5 : 0 ≤ (x6_1 : Int) := of_decide_eq_true (by first | (with_reducible assumption) | assumption)
                          have q5 : x6_1 < (a0.size : Int) := of_decide_eq_true (by first | (with_reducible assumption) | assumption)
                          have hx5 := bt_at a0 x6_1
                          replace p5 := eq_true p5
                          replace q5 := eq_true q5
                          have p48 : 0 ≤ (x6_1 : Int) := of_decide_eq_true (by first | (with_reducible assumption) | assumption)
                          have q48 : x6_1 < (a0.size : Int) := of_decide_eq_true (by first | (with_reducible assumption) | assumption)
                          have hx48 := bt_at a0 x6_1
                          replace p48 := eq_true p48
                          replace q48 := eq_true q48
                          have p52 : 0 ≤ (0 : Int) := (by omega)
                          have q52 : 0 < a0.size := (by have : (0 : Int) < (a0.size : Int) := of_decide_eq_true (by first | (with_reducible assumption) | assumption); omega)
                          have hx52 : ∀ h : 0 < a0.size, ((a0[0]'h).toNat : Int) = bt a0 0 := bt_at a0 0
                          clear p52
                          have qi52 : (0 < (a0.size : Int)) = True := eq_true (of_decide_eq_true (by first | (with_reducible assumption) | assumption))
                          replace q52 := eq_true q52
                          go_wp2
                          repeat (go_quiet (fail); try go_wp2)
                          go_ret3
                          exact ⟨by first | rfl | (simp; done) | (simp [*]; done), by repeat (first | exact Drawn0.refl _ | apply Drawn0.step)⟩
                        · rw [if_neg c53] at H
                          have c53b0 : ((bt a0 0) == 48) = false := beq_eq_false_iff_ne.mpr c53
                          have c53b1 : ((bt a0 0) != 48) = true := bne_iff_ne.mpr c53
                          by_cases c54 : x5_1 > (wrap64 ((wrap64 ((a0.size : Int) - x6_1)) - 2))
                          · rw [if_pos c54] at H
                            have c54b0 : decide ((wrap64 ((wrap64 ((a0.size : Int) - x6_1)) - 2)) < x5_1) = true := decide_eq_true c54
                            clear c54
                            simp only [Option.some.injEq, Prod.mk.injEq] at H
                            obtain ⟨rfl, rfl, rfl⟩ := H
                            have p5 : 0 ≤ (x6_1 : Int) := of_decide_eq_true (by first | (with_reducible assumption) | assumption)
                            have q5 : x6_1 < (a0.size : Int) := of_decide_eq_true (by first | (with_reducible assumption) | assumption)
                            have hx5 := bt_at a0 x6_1
                            replace p5 := eq_true p5
                            replace q5 := eq_true q5
                            have p48 : 0 ≤ (x6_1 : Int) := of_decide_eq_true (by first | (with_reducible assumption) | assumption)
                            have q48 : x6_1 < (a0.size : Int) := of_decide_eq_true (by first | (with_reducible assumption) | assumption)
                            have hx48 := bt_at a0 x6_1
                            replace p48 := eq_true p48
                            replace q48 := eq_true q48
                            have p52 : 0 ≤ (0 : Int) := (by omega)
                            have q52 : 0 < a0.size := (by have : (0 : Int) < (a0.size : Int) := of_decide_eq_true (by first | (with_reducible assumption) | assumption); omega)
                            have hx52 : ∀ h : 0 < a0.size, ((a0[0]'h).toNat : Int) = bt a0 0 := bt_at a0 0
                            clear p52
                            have qi52 : (0 < (a0.size : Int)) = True := eq_true (of_decide_eq_true (by first | (with_reducible assumption) | assumption))
                            replace q52 := eq_true q52
                            go_wp2
                            repeat (go_quiet (fail); try go_wp2)
                            go_ret3
                            exact ⟨by first | rfl | (simp; done) | (simp [*]; done), by repeat (first | exact Drawn0.refl _ | apply Drawn0.step)⟩
                          · rw [if_neg c54] at H
                            have c54b0 : decide ((wrap64 ((wrap64 ((a0.size : Int) - x6_1)) - 2)) < x5_1) = false := decide_eq_false c54
                            clear c54
                            by_cases c55 : x5_1 > (wrap64 ((wrap64 (1048576 - x6_1)) - 2))
                            · rw [if_pos c55] at H
                              have c55b0 : decide ((wrap64 ((wrap64 (1048576 - x6_1)) - 2)) < x5_1) = true := decide_eq_true c55
                              clear c55
                              simp only [Option.some.injEq, Prod.mk.injEq] at H
                              obtain ⟨rfl, rfl, rfl⟩ := H
                              have p5 : 0 ≤ (x6_1 : Int) := of_decide_eq_true (by first | (with_reducible assumption) | assumption)
                              have q5 : x6_1 < (a0.size : Int) := of_decide_eq_true (by first | (with_reducible assumption) | assumption)
                              have hx5 := bt_at a0 x6_1
                              replace p5 := eq_true p5
                              replace q5 := eq_true q5
                              have p48 : 0 ≤ (x6_1 : Int) := of_decide_eq_true (by first | (with_reducible assumption) | assumption)
                              have q48 : x6_1 < (a0.size : Int) := of_decide_eq_true (by first | (with_reducible assumption) | assumption)
                              have hx48 := bt_at a0 x6_1
                              replace p48 := eq_true p48
                              replace q48 := eq_true q48
                              have p52 : 0 ≤ (0 : Int) := (by omega)
                              have q52 : 0 < a0.size := (by have : (0 : Int) < (a0.size : Int) := of_decide_eq_true (by first | (with_reducible assumption) | assumption); omega)
                              have hx52 : ∀ h : 0 < a0.size, ((a0[0]'h).toNat : Int) = bt a0 0 := bt_at a0 0
                              clear p52
                              have qi52 : (0 < (a0.size : Int)) = True := eq_true (of_decide_eq_true (by first | (with_reducible assumption) | assumption))
                              replace q52 := eq_true q52
                              go_wp2
                              repeat (go_quiet (fail); try go_wp2)
                              go_ret3
                              exact ⟨by first | rfl | (simp; done) | (simp [*]; done), by repeat (first | exact Drawn0.refl _ | apply Drawn0.step)⟩
                            · rw [if_neg c55] at H
                              have c55b0 : decide ((wrap64 ((wrap64 (1048576 - x6_1)) - 2)) < x5_1) = false := decide_eq_false c55
                              clear c55
                              obtain ⟨ji56, hji56⟩ : ∃ j_ : Int, (wrap64 ((wrap64 (x6_1 + 1)) + x5_1)) = j_ := ⟨_, rfl⟩
                              replace H : (if 0 ≤ (ji56) then (if (ji56) < (a0.size : Int) then (if (bt a0 (ji56)) = 44 then (if 0 ≤ (wrap64 (x6_1 + 1)) then (if (wrap64 (x6_1 + 1)) ≤ (ji56) then (if (ji56) ≤ (a0.size : Int) then (if 0 ≤ (wrap64 ((wrap64 (x6_1 + 2)) + x5_1)) then (if (wrap64 ((wrap64 (x6_1 + 2)) + x5_1)) ≤ (a0.size : Int) then (some (a0.extract ((wrap64 (x6_1 + 1)) : Int).toNat ((ji56) : Int).toNat, a0.extract ((wrap64 ((wrap64 (x6_1 + 2)) + x5_1)) : Int).toNat a0.size, 0)) else (none)) else (none)) else (none)) else (none)) else (none)) else (some ((⟨#[]⟩ : ByteArray), a0, 10))) else (none)) else (none)) = some (r1, r2, r3) := by first | (rw [hji56] at H; exact H) | (simp only [hji56] at H ⊢; exact H)
                              have hji56w : (IntKind.i64.wrap ((wrap64 (x6_1 + 1)) + x5_1)) = ji56 := (i64_w _).trans hji56
                              by_cases c57 : 0 ≤ (ji56)
                              · rw [if_pos c57] at H
                                have c57b0 : decide (0 ≤ (ji56)) = true := decide_eq_true c57
                                clear c57
                                by_cases c58 : (ji56) < (a0.size : Int)
                                · rw [if_pos c58] at H
                                  have c58b0 : decide ((ji56) < (a0.size : Int)) = true := decide_eq_true c58
                                  clear c58
                                  by_cases c60 : (bt a0 (ji56)) = 44
                                  · rw [if_pos c60] at H
                                    have c60b0 : ((bt a0 (ji56)) == 44) = true := beq_iff_eq.mpr c60
                                    have c60b1 : ((bt a0 (ji56)) != 44) = false := bne_eq_false_iff_eq.mpr c60
                                    clear c60
                                    obtain ⟨ji61, hji61⟩ : ∃ j_ : Int, (wrap64 (x6_1 + 1)) = j_ := ⟨_, rfl⟩
                                    replace H : (if 0 ≤ (ji61) then (if (ji61) ≤ (ji56) then (if (ji56) ≤ (a0.size : Int) then (if 0 ≤ (wrap64 ((wrap64 (x6_1 + 2)) + x5_1)) then (if (wrap64 ((wrap64 (x6_1 + 2)) + x5_1)) ≤ (a0.size : Int) then (some (a0.extract ((ji61) : Int).toNat ((ji56) : Int).toNat, a0.extract ((wrap64 ((wrap64 (x6_1 + 2)) + x5_1)) : Int).toNat a0.size, 0)) else (none)) else (none)) else (none)) else (none)) else (none)) = some (r1, r2, r3) := by first | (rw [hji61] at H; exact H) | (simp only [hji61] at H ⊢; exact H)
                                    have hji61w : (IntKind.i64.wrap (x6_1 + 1)) = ji61 := (i64_w _).trans hji61
                                    have hji56vji61 : (wrap64 (ji61 + x5_1)) = ji56 := by rw [← hji61]; exact hji56
                                    have hji56xji61 : (IntKind.i64.wrap (ji61 + x5_1)) = ji56 := by rw [← hji61]; exact hji56w
                                    by_cases c62 : 0 ≤ (ji61)
                                    · rw [if_pos c62] at H
                                      have c62b0 := eq_true c62
                                      have c62b1 : decide (0 ≤ (ji61)) = true := decide_eq_true c62
                                      clear c62
                                      by_cases c63 : (ji61) ≤ (ji56)
                                      · rw [if_pos c63] at H
                                        have c63b0 := eq_true c63
                                        have c63b1 : decide ((ji61) ≤ (ji56)) = true := decide_eq_true c63
                                        clear c63
                                        by_cases c64 : (ji56) ≤ (a0.size : Int)
                                        · rw [if_pos c64] at H
                                          have c64b0 := eq_true c64
                                          have c64b1 : decide ((ji56) ≤ (a0.size : Int)) = true := decide_eq_true c64
                                          clear c64
                                          obtain ⟨ji65, hji65⟩ : ∃ j_ : Int, (wrap64 ((wrap64 (x6_1 + 2)) + x5_1)) = j_ := ⟨_, rfl⟩
                                          replace H : (if 0 ≤ (ji65) then (if (ji65) ≤ (a0.size : Int) then (some (a0.extract ((ji61) : Int).toNat ((ji56) : Int).toNat, a0.extract ((ji65) : Int).toNat a0.size, 0)) else (none)) else (none)) = some (r1, r2, r3) := by first | (rw [hji65] at H; exact H) | (simp only [hji65] at H ⊢; exact H)
                                          have hji65w : (IntKind.i64.wrap ((wrap64 (x6_1 + 2)) + x5_1)) = ji65 := (i64_w _).trans hji65
                                          by_cases c66 : 0 ≤ (ji65)
                                          · rw [if_pos c66] at H
                                            have c66b0 := eq_true c66
                                            have c66b1 : decide (0 ≤ (ji65)) = true := decide_eq_true c66
                                            clear c66
                                            by_cases c67 : (ji65) ≤ (a0.size : Int)
                                            · rw [if_pos c67] at H
                                              have c67b0 := eq_true c67
                                              have c67b1 : decide ((ji65) ≤ (a0.size : Int)) = true := decide_eq_true c67
                                              clear c67
                                              simp only [Option.some.injEq, Prod.mk.injEq] at H
                                              obtain ⟨rfl, rfl, rfl⟩ := H
                                              have p5 : 0 ≤ (x6_1 : Int) := of_decide_eq_true (by first | (with_reducible assumption) | assumption)
                                              have q5 : x6_1 < (a0.size : Int) := of_decide_eq_true (by first | (with_reducible assumption) | assumption)
                                              have hx5 := bt_at a0 x6_1
                                              replace p5 := eq_true p5
                                              replace q5 := eq_true q5
                                              have p48 : 0 ≤ (x6_1 : Int) := of_decide_eq_true (by first | (with_reducible assumption) | assumption)
                                              have q48 : x6_1 < (a0.size : Int) := of_decide_eq_true (by first | (with_reducible assumption) | assumption)
                                              have hx48 := bt_at a0 x6_1
                                              replace p48 := eq_true p48
                                              replace q48 := eq_true q48
                                              have p52 : 0 ≤ (0 : Int) := (by omega)
                                              have q52 : 0 < a0.size := (by have : (0 : Int) < (a0.size : Int) := of_decide_eq_true (by first | (with_reducible assumption) | assumption); omega)
                                              have hx52 : ∀ h : 0 < a0.size, ((a0[0]'h).toNat : Int) = bt a0 0 := bt_at a0 0
                                              clear p52
                                              have qi52 : (0 < (a0.size : Int)) = True := eq_true (of_decide_eq_true (by first | (with_reducible assumption) | assumption))
                                              replace q52 := eq_true q52
                                              have p59 : 0 ≤ ((ji56) : Int) := of_decide_eq_true (by first | (with_reducible assumption) | assumption)
                                              have q59 : (ji56) < (a0.size : Int) := of_decide_eq_true (by first | (with_reducible assumption) | assumption)
                                              have hx59 := bt_at a0 (ji56)
                                              replace p59 := eq_true p59
                                              replace q59 := eq_true q59
                                              go_wp2
                                              repeat (go_quiet (fail); try go_wp2)
                                              go_ret3
                                              exact ⟨by first | rfl | (simp; done) | (simp only [← hji56, ← hji61, ← hji65] <;> (first | rfl | simp)) | (simp [*]; done), by repeat (first | exact Drawn0.refl _ | apply Drawn0.step)⟩
                                            · rw [if_neg c67] at H
                                              exact absurd H (by simp)
                                          · rw [if_neg c66] at H
                                            exact absurd H (by simp)
                                        · rw [if_neg c64] at H
                                          exact absurd H (by simp)
                                      · rw [if_neg c63] at H
                                        exact absurd H (by simp)
                                    · rw [if_neg c62] at H
                                      exact absurd H (by simp)
                                  · rw [if_neg c60] at H
                                    have c60b0 : ((bt a0 (ji56)) == 44) = false := beq_eq_false_iff_ne.mpr c60
                                    have c60b1 : ((bt a0 (ji56)) != 44) = true := bne_iff_ne.mpr c60
                                    simp only [Option.some.injEq, Prod.mk.injEq] at H
                                    obtain ⟨rfl, rfl, rfl⟩ := H
                                    have p5 : 0 ≤ (x6_1 : Int) := of_decide_eq_true (by first | (with_reducible assumption) | assumption)
                                    have q5 : x6_1 < (a0.size : Int) := of_decide_eq_true (by first | (with_reducible assumption) | assumption)
                                    have hx5 := bt_at a0 x6_1
                                    replace p5 := eq_true p5
                                    replace q5 := eq_true q5
                                    have p48 : 0 ≤ (x6_1 : Int) := of_decide_eq_true (by first | (with_reducible assumption) | assumption)
                                    have q48 : x6_1 < (a0.size : Int) := of_decide_eq_true (by first | (with_reducible assumption) | assumption)
                                    have hx48 := bt_at a0 x6_1
                                    replace p48 := eq_true p48
                                    replace q48 := eq_true q48
                                    have p52 : 0 ≤ (0 : Int) := (by omega)
                                    have q52 : 0 < a0.size := (by have : (0 : Int) < (a0.size : Int) := of_decide_eq_true (by first | (with_reducible assumption) | assumption); omega)
                                    have hx52 : ∀ h : 0 < a0.size, ((a0[0]'h).toNat : Int) = bt a0 0 := bt_at a0 0
                                    clear p52
                                    have qi52 : (0 < (a0.size : Int)) = True := eq_true (of_decide_eq_true (by first | (with_reducible assumption) | assumption))
                                    replace q52 := eq_true q52
                                    have p59 : 0 ≤ ((ji56) : Int) := of_decide_eq_true (by first | (with_reducible assumption) | assumption)
                                    have q59 : (ji56) < (a0.size : Int) := of_decide_eq_true (by first | (with_reducible assumption) | assumption)
                                    have hx59 := bt_at a0 (ji56)
                                    replace p59 := eq_true p59
                                    replace q59 := eq_true q59
                                    go_wp2
                                    repeat (go_quiet (fail); try go_wp2)
                                    go_ret3
                                    exact ⟨by first | rfl | (simp; done) | (simp only [← hji56] <;> (first | rfl | simp)) | (simp [*]; done), by repeat (first | exact Drawn0.refl _ | apply Drawn0.step)⟩
                                · rw [if_neg c58] at H
                                  exact absurd H (by simp)
                              · rw [if_neg c57] at H
                                exact absurd H (by simp)
                      · rw [if_neg c51] at H
                        exact absurd H (by simp)
                    · rw [if_neg c50] at H
                      have c50b0 : decide (1 < x6_1) = false := decide_eq_false c50
                      clear c50
                      by_cases c68 : x5_1 > (wrap64 ((wrap64 ((a0.size : Int) - x6_1)) - 2))
                      · rw [if_pos c68] at H
                        have c68b0 : decide ((wrap64 ((wrap64 ((a0.size : Int) - x6_1)) - 2)) < x5_1) = true := decide_eq_true c68
                        clear c68
                        simp only [Option.some.injEq, Prod.mk.injEq] at H
                        obtain ⟨rfl, rfl, rfl⟩ := H
                        have p5 : 0 ≤ (x6_1 : Int) := of_decide_eq_true (by first | (with_reducible assumption) | assumption)
                        have q5 : x6_1 < (a0.size : Int) := of_decide_eq_true (by first | (with_reducible assumption) | assumption)
                        have hx5 := bt_at a0 x6_1
                        replace p5 := eq_true p5
                        replace q5 := eq_true q5
                        have p48 : 0 ≤ (x6_1 : Int) := of_decide_eq_true (by first | (with_reducible assumption) | assumption)
                        have q48 : x6_1 < (a0.size : Int) := of_decide_eq_true (by first | (with_reducible assumption) | assumption)
                        have hx48 := bt_at a0 x6_1
                        replace p48 := eq_true p48
                        replace q48 := eq_true q48
                        go_wp2
                        repeat (go_quiet (fail); try go_wp2)
                        go_ret3
                        exact ⟨by first | rfl | (simp; done) | (simp [*]; done), by repeat (first | exact Drawn0.refl _ | apply Drawn0.step)⟩
                      · rw [if_neg c68] at H
                        have c68b0 : decide ((wrap64 ((wrap64 ((a0.size : Int) - x6_1)) - 2)) < x5_1) = false := decide_eq_false c68
                        clear c68
                        by_cases c69 : x5_1 > (wrap64 ((wrap64 (1048576 - x6_1)) - 2))
                        · rw [if_pos c69] at H
                          have c69b0 : decide ((wrap64 ((wrap64 (1048576 - x6_1)) - 2)) < x5_1) = true := decide_eq_true c69
                          clear c69
                          simp only [Option.some.injEq, Prod.mk.injEq] at H
                          obtain ⟨rfl, rfl, rfl⟩ := H
                          have p5 : 0 ≤ (x6_1 : Int) := of_decide_eq_true (by first | (with_reducible assumption) | assumption)
                          have q5 : x6_1 < (a0.size : Int) := of_decide_eq_true (by first | (with_reducible assumption) | assumption)
                          have hx5 := bt_at a0 x6_1
                          replace p5 := eq_true p5
                          replace q5 := eq_true q5
                          have p48 : 0 ≤ (x6_1 : Int) := of_decide_eq_true (by first | (with_reducible assumption) | assumption)
                          have q48 : x6_1 < (a0.size : Int) := of_decide_eq_true (by first | (with_reducible assumption) | assumption)
                          have hx48 := bt_at a0 x6_1
                          replace p48 := eq_true p48
                          replace q48 := eq_true q48
                          go_wp2
                          repeat (go_quiet (fail); try go_wp2)
                          go_ret3
                          exact ⟨by first | rfl | (simp; done) | (simp [*]; done), by repeat (first | exact Drawn0.refl _ | apply Drawn0.step)⟩
                        · rw [if_neg c69] at H
                          have c69b0 : decide ((wrap64 ((wrap64 (1048576 - x6_1)) - 2)) < x5_1) = false := decide_eq_false c69
                          clear c69
                          obtain ⟨ji70, hji70⟩ : ∃ j_ : Int, (wrap64 ((wrap64 (x6_1 + 1)) + x5_1)) = j_ := ⟨_, rfl⟩
                          replace H : (if 0 ≤ (ji70) then (if (ji70) < (a0.size : Int) then (if (bt a0 (ji70)) = 44 then (if 0 ≤ (wrap64 (x6_1 + 1)) then (if (wrap64 (x6_1 + 1)) ≤ (ji70) then (if (ji70) ≤ (a0.size : Int) then (if 0 ≤ (wrap64 ((wrap64 (x6_1 + 2)) + x5_1)) then (if (wrap64 ((wrap64 (x6_1 + 2)) + x5_1)) ≤ (a0.size : Int) then (some (a0.extract ((wrap64 (x6_1 + 1)) : Int).toNat ((ji70) : Int).toNat, a0.extract ((wrap64 ((wrap64 (x6_1 + 2)) + x5_1)) : Int).toNat a0.size, 0)) else (none)) else (none)) else (none)) else (none)) else (none)) else (some ((⟨#[]⟩ : ByteArray), a0, 10))) else (none)) else (none)) = some (r1, r2, r3) := by first | (rw [hji70] at H; exact H) | (simp only [hji70] at H ⊢; exact H)
                          have hji70w : (IntKind.i64.wrap ((wrap64 (x6_1 + 1)) + x5_1)) = ji70 := (i64_w _).trans hji70
                          by_cases c71 : 0 ≤ (ji70)
                          · rw [if_pos c71] at H
                            have c71b0 : decide (0 ≤ (ji70)) = true := decide_eq_true c71
                            clear c71
                            by_cases c72 : (ji70) < (a0.size : Int)
                            · rw [if_pos c72] at H
                              have c72b0 : decide ((ji70) < (a0.size : Int)) = true := decide_eq_true c72
                              clear c72
                              by_cases c74 : (bt a0 (ji70)) = 44
                              · rw [if_pos c74] at H
                                have c74b0 : ((bt a0 (ji70)) == 44) = true := beq_iff_eq.mpr c74
                                have c74b1 : ((bt a0 (ji70)) != 44) = false := bne_eq_false_iff_eq.mpr c74
                                clear c74
                                obtain ⟨ji75, hji75⟩ : ∃ j_ : Int, (wrap64 (x6_1 + 1)) = j_ := ⟨_, rfl⟩
                                replace H : (if 0 ≤ (ji75) then (if (ji75) ≤ (ji70) then (if (ji70) ≤ (a0.size : Int) then (if 0 ≤ (wrap64 ((wrap64 (x6_1 + 2)) + x5_1)) then (if (wrap64 ((wrap64 (x6_1 + 2)) + x5_1)) ≤ (a0.size : Int) then (some (a0.extract ((ji75) : Int).toNat ((ji70) : Int).toNat, a0.extract ((wrap64 ((wrap64 (x6_1 + 2)) + x5_1)) : Int).toNat a0.size, 0)) else (none)) else (none)) else (none)) else (none)) else (none)) = some (r1, r2, r3) := by first | (rw [hji75] at H; exact H) | (simp only [hji75] at H ⊢; exact H)
                                have hji75w : (IntKind.i64.wrap (x6_1 + 1)) = ji75 := (i64_w _).trans hji75
                                have hji70vji75 : (wrap64 (ji75 + x5_1)) = ji70 := by rw [← hji75]; exact hji70
                                have hji70xji75 : (IntKind.i64.wrap (ji75 + x5_1)) = ji70 := by rw [← hji75]; exact hji70w
                                by_cases c76 : 0 ≤ (ji75)
                                · rw [if_pos c76] at H
                                  have c76b0 := eq_true c76
                                  have c76b1 : decide (0 ≤ (ji75)) = true := decide_eq_true c76
                                  clear c76
                                  by_cases c77 : (ji75) ≤ (ji70)
                                  · rw [if_pos c77] at H
                                    have c77b0 := eq_true c77
                                    have c77b1 : decide ((ji75) ≤ (ji70)) = true := decide_eq_true c77
                                    clear c77
                                    by_cases c78 : (ji70) ≤ (a0.size : Int)
                                    · rw [if_pos c78] at H
                                      have c78b0 := eq_true c78
                                      have c78b1 : decide ((ji70) ≤ (a0.size : Int)) = true := decide_eq_true c78
                                      clear c78
                                      obtain ⟨ji79, hji79⟩ : ∃ j_ : Int, (wrap64 ((wrap64 (x6_1 + 2)) + x5_1)) = j_ := ⟨_, rfl⟩
                                      replace H : (if 0 ≤ (ji79) then (if (ji79) ≤ (a0.size : Int) then (some (a0.extract ((ji75) : Int).toNat ((ji70) : Int).toNat, a0.extract ((ji79) : Int).toNat a0.size, 0)) else (none)) else (none)) = some (r1, r2, r3) := by first | (rw [hji79] at H; exact H) | (simp only [hji79] at H ⊢; exact H)
                                      have hji79w : (IntKind.i64.wrap ((wrap64 (x6_1 + 2)) + x5_1)) = ji79 := (i64_w _).trans hji79
                                      by_cases c80 : 0 ≤ (ji79)
                                      · rw [if_pos c80] at H
                                        have c80b0 := eq_true c80
                                        have c80b1 : decide (0 ≤ (ji79)) = true := decide_eq_true c80
                                        clear c80
                                        by_cases c81 : (ji79) ≤ (a0.size : Int)
                                        · rw [if_pos c81] at H
                                          have c81b0 := eq_true c81
                                          have c81b1 : decide ((ji79) ≤ (a0.size : Int)) = true := decide_eq_true c81
                                          clear c81
                                          simp only [Option.some.injEq, Prod.mk.injEq] at H
                                          obtain ⟨rfl, rfl, rfl⟩ := H
                                          have p5 : 0 ≤ (x6_1 : Int) := of_decide_eq_true (by first | (with_reducible assumption) | assumption)
                                          have q5 : x6_1 < (a0.size : Int) := of_decide_eq_true (by first | (with_reducible assumption) | assumption)
                                          have hx5 := bt_at a0 x6_1
                                          replace p5 := eq_true p5
                                          replace q5 := eq_true q5
                                          have p48 : 0 ≤ (x6_1 : Int) := of_decide_eq_true (by first | (with_reducible assumption) | assumption)
                                          have q48 : x6_1 < (a0.size : Int) := of_decide_eq_true (by first | (with_reducible assumption) | assumption)
                                          have hx48 := bt_at a0 x6_1
                                          replace p48 := eq_true p48
                                          replace q48 := eq_true q48
                                          have p73 : 0 ≤ ((ji70) : Int) := of_decide_eq_true (by first | (with_reducible assumption) | assumption)
                                          have q73 : (ji70) < (a0.size : Int) := of_decide_eq_true (by first | (with_reducible assumption) | assumption)
                                          have hx73 := bt_at a0 (ji70)
                                          replace p73 := eq_true p73
                                          replace q73 := eq_true q73
                                          go_wp2
                                          repeat (go_quiet (fail); try go_wp2)
                                          go_ret3
                                          exact ⟨by first | rfl | (simp; done) | (simp only [← hji70, ← hji75, ← hji79] <;> (first | rfl | simp)) | (simp [*]; done), by repeat (first | exact Drawn0.refl _ | apply Drawn0.step)⟩
                                        · rw [if_neg c81] at H
                                          exact absurd H (by simp)
                                      · rw [if_neg c80] at H
                                        exact absurd H (by simp)
                                    · rw [if_neg c78] at H
                                      exact absurd H (by simp)
                                  · rw [if_neg c77] at H
                                    exact absurd H (by simp)
                                · rw [if_neg c76] at H
                                  exact absurd H (by simp)
                              · rw [if_neg c74] at H
                                have c74b0 : ((bt a0 (ji70)) == 44) = false := beq_eq_false_iff_ne.mpr c74
                                have c74b1 : ((bt a0 (ji70)) != 44) = true := bne_iff_ne.mpr c74
                                simp only [Option.some.injEq, Prod.mk.injEq] at H
                                obtain ⟨rfl, rfl, rfl⟩ := H
                                have p5 : 0 ≤ (x6_1 : Int) := of_decide_eq_true (by first | (with_reducible assumption) | assumption)
                                have q5 : x6_1 < (a0.size : Int) := of_decide_eq_true (by first | (with_reducible assumption) | assumption)
                                have hx5 := bt_at a0 x6_1
                                replace p5 := eq_true p5
                                replace q5 := eq_true q5
                                have p48 : 0 ≤ (x6_1 : Int) := of_decide_eq_true (by first | (with_reducible assumption) | assumption)
                                have q48 : x6_1 < (a0.size : Int) := of_decide_eq_true (by first | (with_reducible assumption) | assumption)
                                have hx48 := bt_at a0 x6_1
                                replace p48 := eq_true p48
                                replace q48 := eq_true q48
                                have p73 : 0 ≤ ((ji70) : Int) := of_decide_eq_true (by first | (with_reducible assumption) | assumption)
                                have q73 : (ji70) < (a0.size : Int) := of_decide_eq_true (by first | (with_reducible assumption) | assumption)
                                have hx73 := bt_at a0 (ji70)
                                replace p73 := eq_true p73
                                replace q73 := eq_true q73
                                go_wp2
                                repeat (go_quiet (fail); try go_wp2)
                                go_ret3
                                exact ⟨by first | rfl | (simp; done) | (simp only [← hji70] <;> (first | rfl | simp)) | (simp [*]; done), by repeat (first | exact Drawn0.refl _ | apply Drawn0.step)⟩
                            · rw [if_neg c72] at H
                              exact absurd H (by simp)
                          · rw [if_neg c71] at H
                            exact absurd H (by simp)
                  · rw [if_neg c49] at H
                    have c49b0 : ((bt a0 x6_1) == 58) = false := beq_eq_false_iff_ne.mpr c49
                    have c49b1 : ((bt a0 x6_1) != 58) = true := bne_iff_ne.mpr c49
                    simp only [Option.some.injEq, Prod.mk.injEq] at H
                    obtain ⟨rfl, rfl, rfl⟩ := H
                    have p5 : 0 ≤ (x6_1 : Int) := of_decide_eq_true (by first | (with_reducible assumption) | assumption)
                    have q5 : x6_1 < (a0.size : Int) := of_decide_eq_true (by first | (with_reducible assumption) | assumption)
                    have hx5 := bt_at a0 x6_1
                    replace p5 := eq_true p5
                    replace q5 := eq_true q5
                    have p48 : 0 ≤ (x6_1 : Int) := of_decide_eq_true (by first | (with_reducible assumption) | assumption)
                    have q48 : x6_1 < (a0.size : Int) := of_decide_eq_true (by first | (with_reducible assumption) | assumption)
                    have hx48 := bt_at a0 x6_1
                    replace p48 := eq_true p48
                    replace q48 := eq_true q48
                    go_wp2
                    repeat (go_quiet (fail); try go_wp2)
                    go_ret3
                    exact ⟨by first | rfl | (simp; done) | (simp [*]; done), by repeat (first | exact Drawn0.refl _ | apply Drawn0.step)⟩
          · rw [if_neg c4] at H
            exact absurd H (by simp)
        · rw [if_neg c3] at H
          have c3b0 : decide (x6_1 < 8) = false := decide_eq_false c3
          clear c3
          by_cases c82 : x6_1 = 0
          · rw [if_pos c82] at H
            have c82b0 : (x6_1 == 0) = true := beq_iff_eq.mpr c82
            have c82b1 : (x6_1 != 0) = false := bne_eq_false_iff_eq.mpr c82
            clear c82
            simp only [Option.some.injEq, Prod.mk.injEq] at H
            obtain ⟨rfl, rfl, rfl⟩ := H
            go_wp2
            repeat (go_quiet (fail); try go_wp2)
            go_ret3
            exact ⟨by first | rfl | (simp; done) | (simp [*]; done), by repeat (first | exact Drawn0.refl _ | apply Drawn0.step)⟩
          · rw [if_neg c82] at H
            have c82b0 : (x6_1 == 0) = false := beq_eq_false_iff_ne.mpr c82
            have c82b1 : (x6_1 != 0) = true := bne_iff_ne.mpr c82
            by_cases c83 : x6_1 = (a0.size : Int)
            · rw [if_pos c83] at H
              have c83b0 : (x6_1 == (a0.size : Int)) = true := beq_iff_eq.mpr c83
              have c83b1 : (x6_1 != (a0.size : Int)) = false := bne_eq_false_iff_eq.mpr c83
              clear c83
              simp only [Option.some.injEq, Prod.mk.injEq] at H
              obtain ⟨rfl, rfl, rfl⟩ := H
              go_wp2
              repeat (go_quiet (fail); try go_wp2)
              go_ret3
              exact ⟨by first | rfl | (simp; done) | (simp [*]; done), by repeat (first | exact Drawn0.refl _ | apply Drawn0.step)⟩
            · rw [if_neg c83] at H
              have c83b0 : (x6_1 == (a0.size : Int)) = false := beq_eq_false_iff_ne.mpr c83
              have c83b1 : (x6_1 != (a0.size : Int)) = true := bne_iff_ne.mpr c83
              by_cases c84 : 0 ≤ x6_1
              · rw [if_pos c84] at H
                have c84b0 : decide (0 ≤ x6_1) = true := decide_eq_true c84
                clear c84
                by_cases c86 : (bt a0 x6_1) = 58
                · rw [if_pos c86] at H
                  have c86b0 : ((bt a0 x6_1) == 58) = true := beq_iff_eq.mpr c86
                  have c86b1 : ((bt a0 x6_1) != 58) = false := bne_eq_false_iff_eq.mpr c86
                  clear c86
                  by_cases c87 : x6_1 > 1
                  · rw [if_pos c87] at H
                    have c87b0 : decide (1 < x6_1) = true := decide_eq_true c87
                    clear c87
                    by_cases c88 : 0 < (a0.size : Int)
                    · rw [if_pos c88] at H
                      have c88b0 : decide (0 < (a0.size : Int)) = true := decide_eq_true c88
                      have c88b1 : decide (0 < a0.size) = true := decide_eq_true (by omega)
                      clear c88
                      by_cases c90 : (bt a0 0) = 48
                      · rw [if_pos c90] at H
                        have c90b0 : ((bt a0 0) == 48) = true := beq_iff_eq.mpr c90
                        have c90b1 : ((bt a0 0) != 48) = false := bne_eq_false_iff_eq.mpr c90
                        clear c90
                        simp only [Option.some.injEq, Prod.mk.injEq] at H
                        obtain ⟨rfl, rfl, rfl⟩ := H
                        have p85 : 0 ≤ (x6_1 : Int) := of_decide_eq_true (by first | (with_reducible assumption) | assumption)
                        have q85 : x6_1 < (a0.size : Int) := of_decide_eq_true (by first | (with_reducible assumption) | assumption)
                        have hx85 := bt_at a0 x6_1
                        replace p85 := eq_true p85
                        replace q85 := eq_true q85
                        have p89 : 0 ≤ (0 : Int) := (by omega)
                        have q89 : 0 < a0.size := (by have : (0 : Int) < (a0.size : Int) := of_decide_eq_true (by first | (with_reducible assumption) | assumption); omega)
                        have hx89 : ∀ h : 0 < a0.size, ((a0[0]'h).toNat : Int) = bt a0 0 := bt_at a0 0
                        clear p89
                        have qi89 : (0 < (a0.size : Int)) = True := eq_true (of_decide_eq_true (by first | (with_reducible assumption) | assumption))
                        replace q89 := eq_true q89
                        go_wp2
                        repeat (go_quiet (fail); try go_wp2)
                        go_ret3
                        exact ⟨by first | rfl | (simp; done) | (simp [*]; done), by repeat (first | exact Drawn0.refl _ | apply Drawn0.step)⟩
                      · rw [if_neg c90] at H
                        have c90b0 : ((bt a0 0) == 48) = false := beq_eq_false_iff_ne.mpr c90
                        have c90b1 : ((bt a0 0) != 48) = true := bne_iff_ne.mpr c90
                        by_cases c91 : x5_1 > (wrap64 ((wrap64 ((a0.size : Int) - x6_1)) - 2))
                        · rw [if_pos c91] at H
                          have c91b0 : decide ((wrap64 ((wrap64 ((a0.size : Int) - x6_1)) - 2)) < x5_1) = true := decide_eq_true c91
                          clear c91
                          simp only [Option.some.injEq, Prod.mk.injEq] at H
                          obtain ⟨rfl, rfl, rfl⟩ := H
                          have p85 : 0 ≤ (x6_1 : Int) := of_decide_eq_true (by first | (with_reducible assumption) | assumption)
                          have q85 : x6_1 < (a0.size : Int) := of_decide_eq_true (by first | (with_reducible assumption) | assumption)
                          have hx85 := bt_at a0 x6_1
                          replace p85 := eq_true p85
                          replace q85 := eq_true q85
                          have p89 : 0 ≤ (0 : Int) := (by omega)
                          have q89 : 0 < a0.size := (by have : (0 : Int) < (a0.size : Int) := of_decide_eq_true (by first | (with_reducible assumption) | assumption); omega)
                          have hx89 : ∀ h : 0 < a0.size, ((a0[0]'h).toNat : Int) = bt a0 0 := bt_at a0 0
                          clear p89
                          have qi89 : (0 < (a0.size : Int)) = True := eq_true (of_decide_eq_true (by first | (with_reducible assumption) | assumption))
                          replace q89 := eq_true q89
                          go_wp2
                          repeat (go_quiet (fail); try go_wp2)
                          go_ret3
                          exact ⟨by first | rfl | (simp; done) | (simp [*]; done), by repeat (first | exact Drawn0.refl _ | apply Drawn0.step)⟩
                        · rw [if_neg c91] at H
                          have c91b0 : decide ((wrap64 ((wrap64 ((a0.size : Int) - x6_1)) - 2)) < x5_1) = false := decide_eq_false c91
                          clear c91
                          by_cases c92 : x5_1 > (wrap64 ((wrap64 (1048576 - x6_1)) - 2))
                          · rw [if_pos c92] at H
                            have c92b0 : decide ((wrap64 ((wrap64 (1048576 - x6_1)) - 2)) < x5_1) = true := decide_eq_true c92
                            clear c92
                            simp only [Option.some.injEq, Prod.mk.injEq] at H
                            obtain ⟨rfl, rfl, rfl⟩ := H
                            have p85 : 0 ≤ (x6_1 : Int) := of_decide_eq_true (by first | (with_reducible assumption) | assumption)
                            have q85 : x6_1 < (a0.size : Int) := of_decide_eq_true (by first | (with_reducible assumption) | assumption)
                            have hx85 := bt_at a0 x6_1
                            replace p85 := eq_true p85
                            replace q85 := eq_true q85
                            have p89 : 0 ≤ (0 : Int) := (by omega)
                            have q89 : 0 < a0.size := (by have : (0 : Int) < (a0.size : Int) := of_decide_eq_true (by first | (with_reducible assumption) | assumption); omega)
                            have hx89 : ∀ h : 0 < a0.size, ((a0[0]'h).toNat : Int) = bt a0 0 := bt_at a0 0
                            clear p89
                            have qi89 : (0 < (a0.size : Int)) = True := eq_true (of_decide_eq_true (by first | (with_reducible assumption) | assumption))
                            replace q89 := eq_true q89
                            go_wp2
                            repeat (go_quiet (fail); try go_wp2)
                            go_ret3
                            exact ⟨by first | rfl | (simp; done) | (simp [*]; done), by repeat (first | exact Drawn0.refl _ | apply Drawn0.step)⟩
                          · rw [if_neg c92] at H
                            have c92b0 : decide ((wrap64 ((wrap64 (1048576 - x6_1)) - 2)) < x5_1) = false := decide_eq_false c92
                            clear c92
                            obtain ⟨ji93, hji93⟩ : ∃ j_ : Int, (wrap64 ((wrap64 (x6_1 + 1)) + x5_1)) = j_ := ⟨_, rfl⟩
                            replace H : (if 0 ≤ (ji93) then (if (ji93) < (a0.size : Int) then (if (bt a0 (ji93)) = 44 then (if 0 ≤ (wrap64 (x6_1 + 1)) then (if (wrap64 (x6_1 + 1)) ≤ (ji93) then (if (ji93) ≤ (a0.size : Int) then (if 0 ≤ (wrap64 ((wrap64 (x6_1 + 2)) + x5_1)) then (if (wrap64 ((wrap64 (x6_1 + 2)) + x5_1)) ≤ (a0.size : Int) then (some (a0.extract ((wrap64 (x6_1 + 1)) : Int).toNat ((ji93) : Int).toNat, a0.extract ((wrap64 ((wrap64 (x6_1 + 2)) + x5_1)) : Int).toNat a0.size, 0)) else (none)) else (none)) else (none)) else (none)) else (none)) else (some ((⟨#[]⟩ : ByteArray), a0, 10))) else (none)) else (none)) = some (r1, r2, r3) := by first | (rw [hji93] at H; exact H) | (simp only [hji93] at H ⊢; exact H)
                            have hji93w : (IntKind.i64.wrap ((wrap64 (x6_1 + 1)) + x5_1)) = ji93 := (i64_w _).trans hji93
                            by_cases c94 : 0 ≤ (ji93)
                            · rw [if_pos c94] at H
                              have c94b0 : decide (0 ≤ (ji93)) = true := decide_eq_true c94
                              clear c94
                              by_cases c95 : (ji93) < (a0.size : Int)
                              · rw [if_pos c95] at H
                                have c95b0 : decide ((ji93) < (a0.size : Int)) = true := decide_eq_true c95
                                clear c95
                                by_cases c97 : (bt a0 (ji93)) = 44
                                · rw [if_pos c97] at H
                                  have c97b0 : ((bt a0 (ji93)) == 44) = true := beq_iff_eq.mpr c97
                                  have c97b1 : ((bt a0 (ji93)) != 44) = false := bne_eq_false_iff_eq.mpr c97
                                  clear c97
                                  obtain ⟨ji98, hji98⟩ : ∃ j_ : Int, (wrap64 (x6_1 + 1)) = j_ := ⟨_, rfl⟩
                                  replace H : (if 0 ≤ (ji98) then (if (ji98) ≤ (ji93) then (if (ji93) ≤ (a0.size : Int) then (if 0 ≤ (wrap64 ((wrap64 (x6_1 + 2)) + x5_1)) then (if (wrap64 ((wrap64 (x6_1 + 2)) + x5_1)) ≤ (a0.size : Int) then (some (a0.extract ((ji98) : Int).toNat ((ji93) : Int).toNat, a0.extract ((wrap64 ((wrap64 (x6_1 + 2)) + x5_1)) : Int).toNat a0.size, 0)) else (none)) else (none)) else (none)) else (none)) else (none)) = some (r1, r2, r3) := by first | (rw [hji98] at H; exact H) | (simp only [hji98] at H ⊢; exact H)
                                  have hji98w : (IntKind.i64.wrap (x6_1 + 1)) = ji98 := (i64_w _).trans hji98
                                  have hji93vji98 : (wrap64 (ji98 + x5_1)) = ji93 := by rw [← hji98]; exact hji93
                                  have hji93xji98 : (IntKind.i64.wrap (ji98 + x5_1)) = ji93 := by rw [← hji98]; exact hji93w
                                  by_cases c99 : 0 ≤ (ji98)
                                  · rw [if_pos c99] at H
                                    have c99b0 := eq_true c99
                                    have c99b1 : decide (0 ≤ (ji98)) = true := decide_eq_true c99
                                    clear c99
                                    by_cases c100 : (ji98) ≤ (ji93)
                                    · rw [if_pos c100] at H
                                      have c100b0 := eq_true c100
                                      have c100b1 : decide ((ji98) ≤ (ji93)) = true := decide_eq_true c100
                                      clear c100
                                      by_cases c101 : (ji93) ≤ (a0.size : Int)
                                      · rw [if_pos c101] at H
                                        have c101b0 := eq_true c101
                                        have c101b1 : decide ((ji93) ≤ (a0.size : Int)) = true := decide_eq_true c101
                                        clear c101
                                        obtain ⟨ji102, hji102⟩ : ∃ j_ : Int, (wrap64 ((wrap64 (x6_1 + 2)) + x5_1)) = j_ := ⟨_, rfl⟩
                                        replace H : (if 0 ≤ (ji102) then (if (ji102) ≤ (a0.size : Int) then (some (a0.extract ((ji98) : Int).toNat ((ji93) : Int).toNat, a0.extract ((ji102) : Int).toNat a0.size, 0)) else (none)) else (none)) = some (r1, r2, r3) := by first | (rw [hji102] at H; exact H) | (simp only [hji102] at H ⊢; exact H)
                                        have hji102w : (IntKind.i64.wrap ((wrap64 (x6_1 + 2)) + x5_1)) = ji102 := (i64_w _).trans hji102
                                        by_cases c103 : 0 ≤ (ji102)
                                        · rw [if_pos c103] at H
                                          have c103b0 := eq_true c103
                                          have c103b1 : decide (0 ≤ (ji102)) = true := decide_eq_true c103
                                          clear c103
                                          by_cases c104 : (ji102) ≤ (a0.size : Int)
                                          · rw [if_pos c104] at H
                                            have c104b0 := eq_true c104
                                            have c104b1 : decide ((ji102) ≤ (a0.size : Int)) = true := decide_eq_true c104
                                            clear c104
                                            simp only [Option.some.injEq, Prod.mk.injEq] at H
                                            obtain ⟨rfl, rfl, rfl⟩ := H
                                            have p85 : 0 ≤ (x6_1 : Int) := of_decide_eq_true (by first | (with_reducible assumption) | assumption)
                                            have q85 : x6_1 < (a0.size : Int) := of_decide_eq_true (by first | (with_reducible assumption) | assumption)
                                            have hx85 := bt_at a0 x6_1
                                            replace p85 := eq_true p85
                                            replace q85 := eq_true q85
                                            have p89 : 0 ≤ (0 : Int) := (by omega)
                                            have q89 : 0 < a0.size := (by have : (0 : Int) < (a0.size : Int) := of_decide_eq_true (by first | (with_reducible assumption) | assumption); omega)
                                            have hx89 : ∀ h : 0 < a0.size, ((a0[0]'h).toNat : Int) = bt a0 0 := bt_at a0 0
                                            clear p89
                                            have qi89 : (0 < (a0.size : Int)) = True := eq_true (of_decide_eq_true (by first | (with_reducible assumption) | assumption))
                                            replace q89 := eq_true q89
                                            have p96 : 0 ≤ ((ji93) : Int) := of_decide_eq_true (by first | (with_reducible assumption) | assumption)
                                            have q96 : (ji93) < (a0.size : Int) := of_decide_eq_true (by first | (with_reducible assumption) | assumption)
                                            have hx96 := bt_at a0 (ji93)
                                            replace p96 := eq_true p96
                                            replace q96 := eq_true q96
                                            go_wp2
                                            repeat (go_quiet (fail); try go_wp2)
                                            go_ret3
                                            exact ⟨by first | rfl | (simp; done) | (simp only [← hji93, ← hji98, ← hji102] <;> (first | rfl | simp)) | (simp [*]; done), by repeat (first | exact Drawn0.refl _ | apply Drawn0.step)⟩
                                          · rw [if_neg c104] at H
                                            exact absurd H (by simp)
                                        · rw [if_neg c103] at H
                                          exact absurd H (by simp)
                                      · rw [if_neg c101] at H
                                        exact absurd H (by simp)
                                    · rw [if_neg c100] at H
                                      exact absurd H (by simp)
                                  · rw [if_neg c99] at H
                                    exact absurd H (by simp)
                                · rw [if_neg c97] at H
                                  have c97b0 : ((bt a0 (ji93)) == 44) = false := beq_eq_false_iff_ne.mpr c97
                                  have c97b1 : ((bt a0 (ji93)) != 44) = true := bne_iff_ne.mpr c97
                                  simp only [Option.some.injEq, Prod.mk.injEq] at H
                                  obtain ⟨rfl, rfl, rfl⟩ := H
                                  have p85 : 0 ≤ (x6_1 : Int) := of_decide_eq_true (by first | (with_reducible assumption) | assumption)
                                  have q85 : x6_1 < (a0.size : Int) := of_decide_eq_true (by first | (with_reducible assumption) | assumption)
                                  have hx85 := bt_at a0 x6_1
                                  replace p85 := eq_true p85
                                  replace q85 := eq_true q85
                                  have p89 : 0 ≤ (0 : Int) := (by omega)
                                  have q89 : 0 < a0.size := (by have : (0 : Int) < (a0.size : Int) := of_decide_eq_true (by first | (with_reducible assumption) | assumption); omega)
                                  have hx89 : ∀ h : 0 < a0.size, ((a0[0]'h).toNat : Int) = bt a0 0 := bt_at a0 0
                                  clear p89
                                  have qi89 : (0 < (a0.size : Int)) = True := eq_true (of_decide_eq_true (by first | (with_reducible assumption) | assumption))
                                  replace q89 := eq_true q89
                                  have p96 : 0 ≤ ((ji93) : Int) := of_decide_eq_true (by first | (with_reducible assumption) | assumption)
                                  have q96 : (ji93) < (a0.size : Int) := of_decide_eq_true (by first | (with_reducible assumption) | assumption)
                                  have hx96 := bt_at a0 (ji93)
                                  replace p96 := eq_true p96
                                  replace q96 := eq_true q96
                                  go_wp2
                                  repeat (go_quiet (fail); try go_wp2)
                                  go_ret3
                                  exact ⟨by first | rfl | (simp; done) | (simp only [← hji93] <;> (first | rfl | simp)) | (simp [*]; done), by repeat (first | exact Drawn0.refl _ | apply Drawn0.step)⟩
                              · rw [if_neg c95] at H
                                exact absurd H (by simp)
                            · rw [if_neg c94] at H
                              exact absurd H (by simp)
                    · rw [if_neg c88] at H
                      exact absurd H (by simp)
                  · rw [if_neg c87] at H
                    have c87b0 : decide (1 < x6_1) = false := decide_eq_false c87
                    clear c87
                    by_cases c105 : x5_1 > (wrap64 ((wrap64 ((a0.size : Int) - x6_1)) - 2))
                    · rw [if_pos c105] at H
                      have c105b0 : decide ((wrap64 ((wrap64 ((a0.size : Int) - x6_1)) - 2)) < x5_1) = true := decide_eq_true c105
                      clear c105
                      simp only [Option.some.injEq, Prod.mk.injEq] at H
                      obtain ⟨rfl, rfl, rfl⟩ := H
                      have p85 : 0 ≤ (x6_1 : Int) := of_decide_eq_true (by first | (with_reducible assumption) | assumption)
                      have q85 : x6_1 < (a0.size : Int) := of_decide_eq_true (by first | (with_reducible assumption) | assumption)
                      have hx85 := bt_at a0 x6_1
                      replace p85 := eq_true p85
                      replace q85 := eq_true q85
                      go_wp2
                      repeat (go_quiet (fail); try go_wp2)
                      go_ret3
                      exact ⟨by first | rfl | (simp; done) | (simp [*]; done), by repeat (first | exact Drawn0.refl _ | apply Drawn0.step)⟩
                    · rw [if_neg c105] at H
                      have c105b0 : decide ((wrap64 ((wrap64 ((a0.size : Int) - x6_1)) - 2)) < x5_1) = false := decide_eq_false c105
                      clear c105
                      by_cases c106 : x5_1 > (wrap64 ((wrap64 (1048576 - x6_1)) - 2))
                      · rw [if_pos c106] at H
                        have c106b0 : decide ((wrap64 ((wrap64 (1048576 - x6_1)) - 2)) < x5_1) = true := decide_eq_true c106
                        clear c106
                        simp only [Option.some.injEq, Prod.mk.injEq] at H
                        obtain ⟨rfl, rfl, rfl⟩ := H
                        have p85 : 0 ≤ (x6_1 : Int) := of_decide_eq_true (by first | (with_reducible assumption) | assumption)
                        have q85 : x6_1 < (a0.size : Int) := of_decide_eq_true (by first | (with_reducible assumption) | assumption)
                        have hx85 := bt_at a0 x6_1
                        replace p85 := eq_true p85
                        replace q85 := eq_true q85
                        go_wp2
                        repeat (go_quiet (fail); try go_wp2)
                        go_ret3
                        exact ⟨by first | rfl | (simp; done) | (simp [*]; done), by repeat (first | exact Drawn0.refl _ | apply Drawn0.step)⟩
                      · rw [if_neg c106] at H
                        have c106b0 : decide ((wrap64 ((wrap64 (1048576 - x6_1)) - 2)) < x5_1) = false := decide_eq_false c106
                        clear c106
                        obtain ⟨ji107, hji107⟩ : ∃ j_ : Int, (wrap64 ((wrap64 (x6_1 + 1)) + x5_1)) = j_ := ⟨_, rfl⟩
                        replace H : (if 0 ≤ (ji107) then (if (ji107) < (a0.size : Int) then (if (bt a0 (ji107)) = 44 then (if 0 ≤ (wrap64 (x6_1 + 1)) then (if (wrap64 (x6_1 + 1)) ≤ (ji107) then (if (ji107) ≤ (a0.size : Int) then (if 0 ≤ (wrap64 ((wrap64 (x6_1 + 2)) + x5_1)) then (if (wrap64 ((wrap64 (x6_1 + 2)) + x5_1)) ≤ (a0.size : Int) then (some (a0.extract ((wrap64 (x6_1 + 1)) : Int).toNat ((ji107) : Int).toNat, a0.extract ((wrap64 ((wrap64 (x6_1 + 2)) + x5_1)) : Int).toNat a0.size, 0)) else (none)) else (none)) else (none)) else (none)) else (none)) else (some ((⟨#[]⟩ : ByteArray), a0, 10))) else (none)) else (none)) = some (r1, r2, r3) := by first | (rw [hji107] at H; exact H) | (simp only [hji107] at H ⊢; exact H)
                        have hji107w : (IntKind.i64.wrap ((wrap64 (x6_1 + 1)) + x5_1)) = ji107 := (i64_w _).trans hji107
                        by_cases c108 : 0 ≤ (ji107)
                        · rw [if_pos c108] at H
                          have c108b0 : decide (0 ≤ (ji107)) = true := decide_eq_true c108
                          clear c108
                          by_cases c109 : (ji107) < (a0.size : Int)
                          · rw [if_pos c109] at H
                            have c109b0 : decide ((ji107) < (a0.size : Int)) = true := decide_eq_true c109
                            clear c109
                            by_cases c111 : (bt a0 (ji107)) = 44
                            · rw [if_pos c111] at H
                              have c111b0 : ((bt a0 (ji107)) == 44) = true := beq_iff_eq.mpr c111
                              have c111b1 : ((bt a0 (ji107)) != 44) = false := bne_eq_false_iff_eq.mpr c111
                              clear c111
                              obtain ⟨ji112, hji112⟩ : ∃ j_ : Int, (wrap64 (x6_1 + 1)) = j_ := ⟨_, rfl⟩
                              replace H : (if 0 ≤ (ji112) then (if (ji112) ≤ (ji107) then (if (ji107) ≤ (a0.size : Int) then (if 0 ≤ (wrap64 ((wrap64 (x6_1 + 2)) + x5_1)) then (if (wrap64 ((wrap64 (x6_1 + 2)) + x5_1)) ≤ (a0.size : Int) then (some (a0.extract ((ji112) : Int).toNat ((ji107) : Int).toNat, a0.extract ((wrap64 ((wrap64 (x6_1 + 2)) + x5_1)) : Int).toNat a0.size, 0)) else (none)) else (none)) else (none)) else (none)) else (none)) = some (r1, r2, r3) := by first | (rw [hji112] at H; exact H) | (simp only [hji112] at H ⊢; exact H)
                              have hji112w : (IntKind.i64.wrap (x6_1 + 1)) = ji112 := (i64_w _).trans hji112
                              have hji107vji112 : (wrap64 (ji112 + x5_1)) = ji107 := by rw [← hji112]; exact hji107
                              have hji107xji112 : (IntKind.i64.wrap (ji112 + x5_1)) = ji107 := by rw [← hji112]; exact hji107w
                              by_cases c113 : 0 ≤ (ji112)
                              · rw [if_pos c113] at H
                                have c113b0 := eq_true c113
                                have c113b1 : decide (0 ≤ (ji112)) = true := decide_eq_true c113
                                clear c113
                                by_cases c114 : (ji112) ≤ (ji107)
                                · rw [if_pos c114] at H
                                  have c114b0 := eq_true c114
                                  have c114b1 : decide ((ji112) ≤ (ji107)) = true := decide_eq_true c114
                                  clear c114
                                  by_cases c115 : (ji107) ≤ (a0.size : Int)
                                  · rw [if_pos c115] at H
                                    have c115b0 := eq_true c115
                                    have c115b1 : decide ((ji107) ≤ (a0.size : Int)) = true := decide_eq_true c115
                                    clear c115
                                    obtain ⟨ji116, hji116⟩ : ∃ j_ : Int, (wrap64 ((wrap64 (x6_1 + 2)) + x5_1)) = j_ := ⟨_, rfl⟩
                                    replace H : (if 0 ≤ (ji116) then (if (ji116) ≤ (a0.size : Int) then (some (a0.extract ((ji112) : Int).toNat ((ji107) : Int).toNat, a0.extract ((ji116) : Int).toNat a0.size, 0)) else (none)) else (none)) = some (r1, r2, r3) := by first | (rw [hji116] at H; exact H) | (simp only [hji116] at H ⊢; exact H)
                                    have hji116w : (IntKind.i64.wrap ((wrap64 (x6_1 + 2)) + x5_1)) = ji116 := (i64_w _).trans hji116
                                    by_cases c117 : 0 ≤ (ji116)
                                    · rw [if_pos c117] at H
                                      have c117b0 := eq_true c117
                                      have c117b1 : decide (0 ≤ (ji116)) = true := decide_eq_true c117
                                      clear c117
                                      by_cases c118 : (ji116) ≤ (a0.size : Int)
                                      · rw [if_pos c118] at H
                                        have c118b0 := eq_true c118
                                        have c118b1 : decide ((ji116) ≤ (a0.size : Int)) = true := decide_eq_true c118
                                        clear c118
                                        simp only [Option.some.injEq, Prod.mk.injEq] at H
                                        obtain ⟨rfl, rfl, rfl⟩ := H
                                        have p85 : 0 ≤ (x6_1 : Int) := of_decide_eq_true (by first | (with_reducible assumption) | assumption)
                                        have q85 : x6_1 < (a0.size : Int) := of_decide_eq_true (by first | (with_reducible assumption) | assumption)
                                        have hx85 := bt_at a0 x6_1
                                        replace p85 := eq_true p85
                                        replace q85 := eq_true q85
                                        have p110 : 0 ≤ ((ji107) : Int) := of_decide_eq_true (by first | (with_reducible assumption) | assumption)
                                        have q110 : (ji107) < (a0.size : Int) := of_decide_eq_true (by first | (with_reducible assumption) | assumption)
                                        have hx110 := bt_at a0 (ji107)
                                        replace p110 := eq_true p110
                                        replace q110 := eq_true q110
                                        go_wp2
                                        repeat (go_quiet (fail); try go_wp2)
                                        go_ret3
                                        exact ⟨by first | rfl | (simp; done) | (simp only [← hji107, ← hji112, ← hji116] <;> (first | rfl | simp)) | (simp [*]; done), by repeat (first | exact Drawn0.refl _ | apply Drawn0.step)⟩
                                      · rw [if_neg c118] at H
                                        exact absurd H (by simp)
                                    · rw [if_neg c117] at H
                                      exact absurd H (by simp)
                                  · rw [if_neg c115] at H
                                    exact absurd H (by simp)
                                · rw [if_neg c114] at H
                                  exact absurd H (by simp)
                              · rw [if_neg c113] at H
                                exact absurd H (by simp)
                            · rw [if_neg c111] at H
                              have c111b0 : ((bt a0 (ji107)) == 44) = false := beq_eq_false_iff_ne.mpr c111
                              have c111b1 : ((bt a0 (ji107)) != 44) = true := bne_iff_ne.mpr c111
                              simp only [Option.some.injEq, Prod.mk.injEq] at H
                              obtain ⟨rfl, rfl, rfl⟩ := H
                              have p85 : 0 ≤ (x6_1 : Int) := of_decide_eq_true (by first | (with_reducible assumption) | assumption)
                              have q85 : x6_1 < (a0.size : Int) := of_decide_eq_true (by first | (with_reducible assumption) | assumption)
                              have hx85 := bt_at a0 x6_1
                              replace p85 := eq_true p85
                              replace q85 := eq_true q85
                              have p110 : 0 ≤ ((ji107) : Int) := of_decide_eq_true (by first | (with_reducible assumption) | assumption)
                              have q110 : (ji107) < (a0.size : Int) := of_decide_eq_true (by first | (with_reducible assumption) | assumption)
                              have hx110 := bt_at a0 (ji107)
                              replace p110 := eq_true p110
                              replace q110 := eq_true q110
                              go_wp2
                              repeat (go_quiet (fail); try go_wp2)
                              go_ret3
                              exact ⟨by first | rfl | (simp; done) | (simp only [← hji107] <;> (first | rfl | simp)) | (simp [*]; done), by repeat (first | exact Drawn0.refl _ | apply Drawn0.step)⟩
                          · rw [if_neg c109] at H
                            exact absurd H (by simp)
                        · rw [if_neg c108] at H
                          exact absurd H (by simp)
                · rw [if_neg c86] at H
                  have c86b0 : ((bt a0 x6_1) == 58) = false := beq_eq_false_iff_ne.mpr c86
                  have c86b1 : ((bt a0 x6_1) != 58) = true := bne_iff_ne.mpr c86
                  simp only [Option.some.injEq, Prod.mk.injEq] at H
                  obtain ⟨rfl, rfl, rfl⟩ := H
                  have p85 : 0 ≤ (x6_1 : Int) := of_decide_eq_true (by first | (with_reducible assumption) | assumption)
                  have q85 : x6_1 < (a0.size : Int) := of_decide_eq_true (by first | (with_reducible assumption) | assumption)
                  have hx85 := bt_at a0 x6_1
                  replace p85 := eq_true p85
                  replace q85 := eq_true q85
                  go_wp2
                  repeat (go_quiet (fail); try go_wp2)
                  go_ret3
                  exact ⟨by first | rfl | (simp; done) | (simp [*]; done), by repeat (first | exact Drawn0.refl _ | apply Drawn0.step)⟩
              · rw [if_neg c84] at H
                exact absurd H (by simp)
      · rw [if_neg c2] at H
        have c2b0 : decide (x6_1 < (a0.size : Int)) = false := decide_eq_false c2
        clear c2
        by_cases c119 : x6_1 = 0
        · rw [if_pos c119] at H
          have c119b0 : (x6_1 == 0) = true := beq_iff_eq.mpr c119
          have c119b1 : (x6_1 != 0) = false := bne_eq_false_iff_eq.mpr c119
          clear c119
          simp only [Option.some.injEq, Prod.mk.injEq] at H
          obtain ⟨rfl, rfl, rfl⟩ := H
          go_wp2
          repeat (go_quiet (fail); try go_wp2)
          go_ret3
          exact ⟨by first | rfl | (simp; done) | (simp [*]; done), by repeat (first | exact Drawn0.refl _ | apply Drawn0.step)⟩
        · rw [if_neg c119] at H
          have c119b0 : (x6_1 == 0) = false := beq_eq_false_iff_ne.mpr c119
          have c119b1 : (x6_1 != 0) = true := bne_iff_ne.mpr c119
          by_cases c120 : x6_1 = (a0.size : Int)
          · rw [if_pos c120] at H
            have c120b0 : (x6_1 == (a0.size : Int)) = true := beq_iff_eq.mpr c120
            have c120b1 : (x6_1 != (a0.size : Int)) = false := bne_eq_false_iff_eq.mpr c120
            clear c120
            simp only [Option.some.injEq, Prod.mk.injEq] at H
            obtain ⟨rfl, rfl, rfl⟩ := H
            go_wp2
            repeat (go_quiet (fail); try go_wp2)
            go_ret3
            exact ⟨by first | rfl | (simp; done) | (simp [*]; done), by repeat (first | exact Drawn0.refl _ | apply Drawn0.step)⟩
          · rw [if_neg c120] at H
            have c120b0 : (x6_1 == (a0.size : Int)) = false := beq_eq_false_iff_ne.mpr c120
            have c120b1 : (x6_1 != (a0.size : Int)) = true := bne_iff_ne.mpr c120
            by_cases c121 : 0 ≤ x6_1
            · rw [if_pos c121] at H
              exact absurd H (by simp)
            · rw [if_neg c121] at H
              exact absurd H (by simp)

end Go.Proofs.YtjmejamgbinigaaGreatDoor.XRs
