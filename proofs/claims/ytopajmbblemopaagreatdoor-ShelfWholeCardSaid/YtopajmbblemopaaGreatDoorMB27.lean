/-
  Lemmas, joined of the texts S8 S9.
-/
import Derived.Test.YtopajmbblemopaaGreatDoorMB22
import Derived.Test.YtopajmbblemopaaGreatDoorMB26
namespace Go.Proofs.YtopajmbblemopaaGreatDoor
set_option linter.unusedVariables false
set_option linter.unusedSimpArgs false
def costP (p : Sh) : Nat := costC (packC p)
theorem costP_cons (a : Txt × Txt) (p : Sh) : costP (a :: p) = a.1.length + a.2.length + 100 + costP p := rfl
theorem costP_put : ∀ (k v : Txt) (p : Sh), costP (putS k v p) ≤ costP p + (k.length + v.length + 100)
  | k, v, [] => by
    rw [putS, costP_cons]
    simp only
    omega
  | k, v, a :: p => by
    have ih := costP_put k v p
    rw [putS]
    split
    · rw [costP_cons, costP_cons]
      omega
    · split
      · rw [costP_cons, costP_cons]
        simp only
        omega
      · rw [costP_cons]
        simp only
        omega
theorem costP_del : ∀ (k : Txt) (p : Sh), costP (delS k p) ≤ costP p
  | k, [] => Nat.le_refl _
  | k, a :: p => by
    have ih := costP_del k p
    rw [delS]
    split
    · rw [costP_cons, costP_cons]
      omega
    · split
      · rw [costP_cons]
        omega
      · exact Nat.le_refl _
theorem costP_all : ∀ (l : List Chn) (p : Sh), costP (doAll p l) ≤ costP p + costC l
  | [], p => Nat.le_refl _
  | c :: l, p => by
    have ih := costP_all l (doC p c)
    have e : doAll p (c :: l) = doAll (doC p c) l := rfl
    rw [e, costC]
    have h : costP (doC p c) ≤ costP p + (c.key.length + c.val.length + 100) := by
      unfold doC
      split
      · have := costP_del c.key p
        omega
      · exact costP_put _ _ _
    omega
theorem lenP_all : ∀ (l : List Chn) (p : Sh), (doAll p l).length ≤ p.length + l.length
  | [], p => Nat.le_refl _
  | c :: l, p => by
    have ih := lenP_all l (doC p c)
    have e : doAll p (c :: l) = doAll (doC p c) l := rfl
    rw [e, List.length_cons]
    have h : (doC p c).length ≤ p.length + 1 := by
      unfold doC
      split
      · have := len_del p c.key
        omega
      · exact len_put p c.key c.val
    omega
/-- A key that is there has a slim value. -/
theorem Valid.slim {p : Sh} (h : Valid p) : ∀ a ∈ p, a.1.length ≤ 128 ∧ a.2.length ≤ 262144 := fun a ha => by
  obtain ⟨_, h2, h3, _⟩ := (isC_iff _).1 (h a ha)
  exact ⟨h2, h3⟩
theorem cost_tot : ∀ (l : List MC), costC (l.map MC.toC) ≤ totM l l.length + 100 * l.length
  | [] => Nat.zero_le _
  | c :: l => by
    have ih := cost_tot l
    have e : totM (c :: l) (c :: l).length = szM c + totM l l.length := by
      unfold totM
      rw [List.take_length, List.take_length]
      rfl
    rw [e, List.map_cons, costC, List.length_cons]
    have e1 : c.toC.key.length = c.key.size := bs_size c.key
    have e2 : c.toC.val.length = c.val.size := bs_size c.val
    unfold szM
    omega
end Go.Proofs.YtopajmbblemopaaGreatDoor
namespace Go.Proofs.YtopajmbblemopaaGreatDoor
set_option linter.unusedVariables false
set_option linter.unusedSimpArgs false
open Go.RowKit
theorem After.shelf {s : RS} {t e : Int} {b : Txt} {recs : List Txt} {p : Sh} (h : After s t e b recs) (hr : readTexts (b :: recs) [] = some p) :
    ∃ s' L' n, openM s = (s', 0) ∧ openOf (tapeOf s 0) (tapeOf s 1) = L' ∧ pickC (tapeOf s 0) (tapeOf s 1) = (e, b, recs, n) ∧ SClean s' L' b recs p ∧ L'.epoch = e ∧ L'.recs = recs.length ∧ s'.left = -1 ∧ s'.room = s.room ∧ s'.used ≤ s.used := by
  obtain ⟨s3, L3, o3, c3, f3, p3, e3, t3, l3, m3, u3⟩ := h.open_
  exact ⟨s3, L3, _, o3, f3, p3, ⟨c3, hr⟩, e3, c3.n, l3, m3, u3⟩
theorem SClean.reopen {s : RS} {L : LS} {b : Txt} {recs : List Txt} {p : Sh} (h : SClean s L b recs p) (k0 k1 : Int) (tn : UInt8) :
    ∃ s' L' n, openM (s.crash k0 k1 tn) = (s', 0) ∧ openOf (tapeOf (s.crash k0 k1 tn) 0) (tapeOf (s.crash k0 k1 tn) 1) = L' ∧ pickC (tapeOf (s.crash k0 k1 tn) 0) (tapeOf (s.crash k0 k1 tn) 1) = (L.epoch, b, recs, n) ∧ SClean s' L' b recs p ∧ L'.epoch = L.epoch ∧ L'.recs = recs.length ∧ s'.left = -1 ∧ s'.room = s.room ∧ s'.used ≤ s.used := by
  obtain ⟨s3, L3, n, o3, f3, p3, c3, e3, t3, l3, m3, u3⟩ := (h.led.after k0 k1 tn).shelf h.has
  have hu := crash_used s k0 k1 tn
  exact ⟨s3, L3, n, o3, f3, p3, c3, e3, t3, l3, m3, by omega⟩
theorem SClean.lok {s : RS} {L : LS} {b : Txt} {recs : List Txt} {p : Sh} (h : SClean s L b recs p) : L.Ok := by
  have h0 := h.led.fits.e0
  have h1 := h.led.fits.e1
  have h2 := h.led.fits.hl
  have h3 := h.led.n
  exact ⟨h.led.tape, by omega, by omega, by omega, by omega⟩
def chA : List Chn := [⟨[97], false, [49]⟩, ⟨[98], false, [50]⟩]
def chB : List Chn := [⟨[97], true, []⟩]
def pA : Sh := [([97], [49]), ([98], [50])]
def pB : Sh := [([98], [50])]
theorem pA_is : doAll [] chA = pA := by decide
theorem pB_is : doAll pA chB = pB := by decide
theorem slive_plain : ∃ s1 L1 s2 L2 s3 L3 s4 L4 r1 r2 n4,
    openM (RS.new 10000) = (s1, 0) ∧ openOf (tapeOf (RS.new 10000) 0) (tapeOf (RS.new 10000) 1) = L1 ∧ pickC (tapeOf (RS.new 10000) 0) (tapeOf (RS.new 10000) 1) = (0, [], [], 0) ∧ L1.Ok ∧
    commitM s1 L1 [] chA = (s2, L2, pA, 0) ∧ L2.Ok ∧ commitM s2 L2 pA chB = (s3, L3, pB, 0) ∧
    openM (s3.crash 0 0 0) = (s4, 0) ∧ openOf (tapeOf (s3.crash 0 0 0) 0) (tapeOf (s3.crash 0 0 0) 1) = L4 ∧ pickC (tapeOf (s3.crash 0 0 0) 0) (tapeOf (s3.crash 0 0 0) 1) = (1, [], [r1, r2], n4) ∧
    readTexts [[], r1, r2] [] = some pB ∧ L4.Ok ∧ L4.recs = 2 ∧ commitM s4 L4 pB [⟨[], false, []⟩] = (s4, L4, pB, 2) ∧ Rises pB := by
  obtain ⟨s1, L1, o1, c1, f1, p1, e1, r1, l1, m1, u1⟩ := shelf_new 10000 (by omega) (by omega)
  have k1 : costC chA = 204 := rfl
  have k2 : costC chB = 101 := rfl
  rcases c1.commit (l := chA) (by decide) (by decide) (by decide) (by decide) (by rw [free_eq, m1, k1]; omega) (by decide) with ⟨s2, L2, a2, c2, e2, t2, m2, u2, l2⟩ | ⟨q, _⟩
  · rw [pA_is] at a2 c2
    rcases c2.commit (l := chB) (by decide) (by decide) (by decide) (by decide) (by rw [free_eq, m2, m1, k2]; omega) (by decide) with ⟨s3, L3, a3, c3, e3, t3, m3, u3, l3⟩ | ⟨q, _⟩
    · rw [pB_is] at a3 c3
      obtain ⟨s4, L4, n4, o4, f4, p4, c4, e4, t4, l4, m4, u4⟩ := c3.reopen 0 0 0
      have he : L3.epoch = 1 := by rw [e3, e2, e1]
      rw [he] at p4
      exact ⟨s1, L1, s2, L2, s3, L3, s4, L4, _, _, n4, o1, f1, p1, c1.lok, a2, c2.lok, a3, o4, f4, p4, c4.has, c4.lok, t4, by unfold commitM; rw [if_pos (by decide)], c4.good.1⟩
    · exact absurd (l2 l1) q
  · exact absurd l1 q
end Go.Proofs.YtopajmbblemopaaGreatDoor
