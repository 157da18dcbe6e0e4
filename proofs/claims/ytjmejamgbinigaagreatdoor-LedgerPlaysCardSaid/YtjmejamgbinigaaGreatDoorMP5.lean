/-
  Lemmas, joined of the texts QL3 QL4 PW2.
-/
import Derived.Test.YtjmejamgbinigaaGreatDoorMP3
import Derived.Test.YtjmejamgbinigaaGreatDoorMB16
import Derived.Test.YtjmejamgbinigaaGreatDoorMP4
namespace Go.Proofs.YtjmejamgbinigaaGreatDoor
set_option linter.unusedVariables false
set_option linter.unusedSimpArgs false
open Go.RowKit Go.Proofs.YtjmejamgbinigaaGreatDoorW.PrintWords Go.Proofs.YtjmejamgbinigaaGreatDoorW.PrintLast
theorem scanGo_keeps : ∀ (f N : Nat) (s : Txt) (e : Int) (b : Txt) (l : List Txt) (r : Nat), 0 < e → (scanGo f N s e b l r).1 = e
  | 0, _, _, _, _, _, _, _ => rfl
  | f + 1, N, s, e, b, l, r, h => by
    rw [scanGo]
    split
    · rfl
    · rename_i k n t s' _
      rw [if_neg (by rintro ⟨q, _⟩; omega)]
      split
      · exact scanGo_keeps f N s' e b _ _ h
      · rfl
theorem scan_zero {s : Txt} (h : (scanL s).1 = 0) : scanL s = (0, [], [], 0) := by
  unfold scanL at h ⊢
  rw [scanGo] at h ⊢
  split
  · rfl
  · rename_i k n t s' hq
    rw [hq] at h
    simp only at h
    split
    · rename_i hc
      rw [if_pos (show True ∧ k = kBase ∧ 1 ≤ n ∧ n ≤ topEpoch from ⟨trivial, hc.2⟩), scanGo_keeps _ _ _ _ _ _ _ (by omega)] at h
      omega
    · rw [if_neg (by rintro ⟨q, _⟩; omega)]
theorem FPost.then_ {w w1 w2 : World} {b gs gf : Nat} {x y : FS} (h : FPost w b gs gf x w1) (k : FPost w1 b gs gf y w2) : FPost w b gs gf y w2 :=
  ⟨k.raw, h.chg.trans k.chg (fun _ hi => .inl hi)⟩
theorem FRaw.lts {w : World} {b gs gf : Nat} {x : FS} (h : FRaw w b gs gf x) : ∀ k ∈ FFoot b gs gf, k < w.heap.size := by
  intro k hk
  have h1 := h.blk.lt
  have h2 := h.strs.lt
  have h3 := h.nums.lt
  simp [FFoot] at hk
  omega
def ROpenPost (w : World) (b gs gf : Nat) (s' : RS) (er : Int) (L : LS) (base : ByteArray) (recs : List ByteArray) (e : Ending) (w' : World) : Prop :=
  FPost w b gs gf s'.toF w' ∧
    ((er ≠ 0 ∧ e = .returned (.tuple #[.pointer none, .string ⟨#[]⟩, .slice none 0 0, .int .i64 er])) ∨
      (er = 0 ∧ ∃ qb v B, e = .returned (.tuple #[.pointer (some ⟨qb, 0, none⟩), .string base, v, .int .i64 0]) ∧ w.heap.size ≤ qb ∧ Blk w' qb (LCells b L) 57 ∧
        w.heap.size ≤ B ∧ Kd.R Kd.string 9 w' B (fun k => B ≤ k ∧ k ≠ qb) v recs))
theorem FPost.from {w W w' : World} {b gs gf : Nat} {x : FS} (hb : Below w.heap.size w W) (h : FPost W b gs gf x w') : FPost w b gs gf x w' :=
  ⟨h.raw, (Chg.of_below hb _).trans h.chg (fun _ hi => .inl hi)⟩
theorem ropen_done {w W w' : World} {b gs gf B : Nat} {s' : RS} {L : LS} {base : ByteArray} {recs : List ByteArray} {v : Value} {ok : Nat → Prop} (hfp : ∀ k ∈ FFoot b gs gf, k < w.heap.size) (hb : Below w.heap.size w W) (h : FPost W b gs gf s'.toF w') (hB : w.heap.size ≤ B)
    (hv : Kd.R Kd.string 9 W B ok v recs) :
    ROpenPost w b gs gf s' 0 L base recs (.returned (.tuple #[.pointer (some ⟨w'.heap.size, 0, none⟩), .string base, v, .int .i64 0])) (w'.alloc (.cells (LCells b L).toArray 57)) := by
  have h' := FPost.from hb h
  have hs := h.chg.size
  have hs0 := hb.size
  refine ⟨h'.alloc _, .inr ⟨rfl, w'.heap.size, v, B, rfl, by omega, Blk.new _ _ _, hB, ?_⟩⟩
  have h1 := Kd.R_bound hv
  have h2 : Kd.R Kd.string 9 W B (fun k => B ≤ k ∧ k < W.heap.size) v recs := Kd.R_mono h1 (fun k hk => ⟨hk.2.1, hk.2.2.1⟩)
  have h3 : Kd.R Kd.string 9 w' B (fun k => B ≤ k ∧ k < W.heap.size) v recs := Kd.R_step h2 (fun k hk hk2 => h.chg.block k hk2 (fun q => by have := hfp k q; omega))
  have h4 : Kd.R Kd.string 9 (w'.alloc (.cells (LCells b L).toArray 57)) B (fun k => B ≤ k ∧ k < W.heap.size) v recs := Kd.R_step h3 (fun k hk hk2 => Below.heap_alloc _ _ _ hk2)
  exact Kd.R_mono h4 (fun k hk => ⟨hk.1, by omega⟩)
section
variable {W w : World} {b gs gf : Nat} {s : RS}
theorem st_wipe (t : Int) (h : FPost W b gs gf s.toF w) (ho : s.Ok) (s1 : RS) (e1 : Int) (he : s.wipe t = (s1, e1)) :
    Calls Tryz.prog 39 #[.pointer (some ⟨b, 0, none⟩), .int .i64 t] w fun e w' => e = .returned (.int .i64 e1) ∧ FPost W b gs gf s1.toF w' := by
  refine (rwipe_any b gs gf t s w h.raw ho).mono ?_
  rintro e w' ⟨rfl, hp⟩
  rw [he] at hp ⊢
  exact ⟨rfl, h.then_ hp⟩
theorem st_sync (t : Int) (h : FPost W b gs gf s.toF w) (ho : s.Ok) (s1 : RS) (e1 : Int) (he : s.sync t = (s1, e1)) :
    Calls Tryz.prog 41 #[.pointer (some ⟨b, 0, none⟩), .int .i64 t] w fun e w' => e = .returned (.int .i64 e1) ∧ FPost W b gs gf s1.toF w' := by
  refine (rsync_any b gs gf t s w h.raw ho).mono ?_
  rintro e w' ⟨rfl, hp⟩
  rw [he] at hp ⊢
  exact ⟨rfl, h.then_ hp⟩
theorem st_trim (t n : Int) (h : FPost W b gs gf s.toF w) (ho : s.Ok) (s1 : RS) (e1 : Int) (he : s.trim t n = (s1, e1)) :
    Calls Tryz.prog 42 #[.pointer (some ⟨b, 0, none⟩), .int .i64 t, .int .i64 n] w fun e w' => e = .returned (.int .i64 e1) ∧ FPost W b gs gf s1.toF w' := by
  refine (rtrim_any b gs gf t n s w h.raw ho).mono ?_
  rintro e w' ⟨rfl, hp⟩
  rw [he] at hp ⊢
  exact ⟨rfl, h.then_ hp⟩
theorem st_write (t : Int) (pg : Txt) (hl : pg.length ≤ 4194304) (h : FPost W b gs gf s.toF w) (ho : s.Ok) (s1 : RS) (e1 : Int) (he : s.write t pg = (s1, e1)) :
    Calls Tryz.prog 21 #[.pointer (some ⟨b, 0, none⟩), .int .i64 t, .string (str pg)] w fun e w' => e = .returned (.int .i64 e1) ∧ FPost W b gs gf s1.toF w' := by
  refine (rwrite_any b gs gf t s w (str pg) h.raw ho (by rw [str_size]; omega)).mono ?_
  rintro e w' ⟨rfl, hp⟩
  have hb : (str pg).data.toList = pg := bs_of pg
  rw [hb, he] at hp
  rw [hb, he]
  exact ⟨rfl, h.then_ hp⟩
end
theorem then_stop {s : RS} {e : Int} {f : RS → RS × Int} (h : e ≠ 0) : andThen (s, e) f = (s, e) := if_neg h
theorem then_go {s : RS} {f : RS → RS × Int} : andThen (s, 0) f = f s := if_pos rfl
theorem clr_empty {s : RS} {t : Int} : clr s t [] = (s, 0) := if_pos rfl
theorem clr_full {s : RS} {t : Int} {x : Txt} (h : x ≠ []) : clr s t x = s.wipe t := if_neg h
theorem then_clr {p : RS × Int} {t : Int} {x : ByteArray} {c : Bool} (hc : (decide (p.2 = 0) && !x.toList.isEmpty) = c) :
    (c = true → andThen p (fun s => clr s t (bsL x)) = p.1.wipe t) ∧ (c = false → andThen p (fun s => clr s t (bsL x)) = p) := by
  subst hc
  constructor
  · intro h
    simp only [Bool.and_eq_true, decide_eq_true_eq, Bool.not_eq_true'] at h
    unfold andThen
    rw [if_pos h.1]
    refine clr_full fun q => ?_
    have := h.2
    rw [bs_toList, q] at this
    cases this
  · intro h
    unfold andThen
    split
    · rename_i h0
      have hx : bsL x = [] := by
        rw [← bs_toList]
        simpa [h0] using h
      simp only [hx]
      rw [clr_empty, ← h0]
    · rfl
/-- A tape that there is wiped, if the error so far is none. -/
structure Stp (W : World) (b gs gf : Nat) (p : RS × Int) (v : Value) (w : World) : Prop where
  val : v = .int .i64 p.2
  post : FPost W b gs gf p.1.toF w
  ok : p.1.Ok
set_option maxHeartbeats 3200000 in
set_option maxRecDepth 100000 in
theorem ropen_new (w : World) (b gs gf : Nat) (s : RS) (hF : FRaw w b gs gf s.toF) (hok : s.Ok) (x0 x1 : ByteArray) (v0 v1 : Value) (n0 n1 : Int) (pg : Txt) (hpl : pg.length ≤ 4194304)
    (HR0 : Hd (Calls Tryz.prog 37 #[.pointer (some ⟨b, 0, none⟩), .int .i64 0] w fun e w' => e = .returned (.tuple #[.string x0, .int .i64 0]) ∧ w = w'))
    (HR1 : Hd (Calls Tryz.prog 37 #[.pointer (some ⟨b, 0, none⟩), .int .i64 1] w fun e w' => e = .returned (.tuple #[.string x1, .int .i64 0]) ∧ w = w'))
    (HS0 : Hd (Calls Tryz.prog 38 #[.string x0] w fun e w' => ∃ v, e = .returned (.tuple #[.int .i64 0, .string ⟨#[]⟩, v, .int .i64 n0]) ∧ Below w.heap.size w w'))
    (HS1 : Hd (∀ w1, Below w.heap.size w w1 → Calls Tryz.prog 38 #[.string x1] w1 fun e w' => ∃ v, e = .returned (.tuple #[.int .i64 0, .string ⟨#[]⟩, v, .int .i64 n1]) ∧ Below w.heap.size w w'))
    (HPg : Hd (∀ w1, Calls Tryz.prog 40 #[.string ⟨#[98, 97, 115, 101]⟩, .int .i64 1, .string ⟨#[]⟩] w1 fun e w' => e = .returned (.string (str pg)) ∧ Below w1.heap.size w1 w'))
    (p1 p2 p3 p4 : RS × Int) (h1 : clr s 0 (bsL x0) = p1) (h2 : andThen p1 (fun s => clr s 1 (bsL x1)) = p2) (h3 : andThen p2 (fun s => s.write 0 pg) = p3) (h4 : andThen p3 (fun s => s.sync 0) = p4) :
    Calls Tryz.prog 10 #[.pointer (some ⟨b, 0, none⟩)] w (ROpenPost w b gs gf p4.1 p4.2 ⟨0, 1, 0, false⟩ ⟨#[]⟩ []) := by
  have o1 : p1.1.Ok := h1 ▸ clr_ok hok 0 _
  have o2 : p2.1.Ok := h2 ▸ andThen_ok o1 (fun s hs => clr_ok hs 1 _)
  have o3 : p3.1.Ok := h3 ▸ andThen_ok o2 (fun s hs => hs.write 0 pg)
  have HO := hd (And.intro hok (And.intro o1 (And.intro o2 o3)))
  have hlts := hd hF.lts
  have HF := hd hF
  have H1 := hd h1
  have H2 := hd h2
  have H3 := hd h3
  have H4 := hd h4
  have HPL := hd hpl
  clear h1 h2 h3 h4 o1 o2 o3 hok hF hpl
  go_enter Tryz.func10, Tryz.ntmps10
  go_wp2_with (fail)
  refine HR0.out.mono ?_
  rintro e w1 ⟨rfl, rfl⟩
  go_wp2_with (fail)
  refine HR1.out.mono ?_
  rintro e w1 ⟨rfl, rfl⟩
  go_wp2_with (fail)
  refine HS0.out.mono ?_
  rintro e w2 ⟨u0, rfl, hb2⟩
  have HB2 := hd hb2
  clear hb2
  go_wp2_with (fail)
  refine (HS1.out _ HB2.out).mono ?_
  rintro e w3 ⟨u1, rfl, hb3⟩
  have HB3 := hd hb3
  clear hb3
  go_upto_if 55 with (fail)
  have HP0 := hd ((FRaw.chg HF.out (Chg.of_below HB3.out (fun _ => False)) id id id).post)
  clear HF HR0 HR1 HS0 HS1
  go_cut [7] (fun v wx => v = .int .i64 p1.2 ∧ FPost w3 b gs gf p1.1.toF wx)
  case first =>
    have e1 := H1.out
    have oo := HO.out.1
    by_cases hx : bsL x0 = []
    · have hs1 : x0.toList = [] := by rw [bs_toList, hx]
      have hs2 : x0.toList.isEmpty = true := by rw [hs1]; rfl
      have hs3 : (!x0.toList.isEmpty) = false := by rw [hs1]; rfl
      have hs4 : (x0.toList != []) = false := by rw [hs1]; rfl
      rw [hx, clr_empty] at e1
      subst e1
      clear hx oo
      simp only [hs3]
      go_wp2_with (fail)
      go_meet
      exact ⟨rfl, HP0.out⟩
    · have hs2 : x0.toList.isEmpty = false := by rw [bs_toList]; simpa using hx
      have hs3 : (!x0.toList.isEmpty) = true := by rw [hs2]; rfl
      have hs4 : (x0.toList != []) = true := by rw [bs_toList]; simpa using hx
      rw [clr_full hx] at e1
      have HW := hd (st_wipe 0 HP0.out oo p1.1 p1.2 e1)
      clear hx oo e1
      simp only [hs3]
      go_wp2_with (fail)
      refine HW.out.mono ?_
      rintro e w4 ⟨rfl, hp⟩
      go_wp2_with (fail)
      go_meet
      exact ⟨rfl, hp⟩
  obtain ⟨rfl, hp1⟩ := hcut
  have HP1 := hd hp1
  clear hp1 HP0 H1
  go_upto_region 10 with (fail)
  obtain ⟨cc, hcc⟩ : ∃ cc, (decide (p1.2 = 0) && !x1.toList.isEmpty) = cc := ⟨_, rfl⟩
  have HCC := hd hcc
  clear hcc
  go_cut [63] (fun v wx => v = .bool cc ∧ FPost w3 b gs gf p1.1.toF wx)
  case first =>
    have hcc := HCC.out
    by_cases he : p1.2 = 0
    · have he2 : (p1.2 == 0) = true := by simpa using he
      have hcc2 : (!x1.toList.isEmpty) = cc := by simpa [he] using hcc
      clear he hcc
      go_wp2_with (fail)
      go_meet
      exact ⟨rfl, HP1.out⟩
    · have he2 : (p1.2 == 0) = false := by simpa using he
      have hcc2 : false = cc := by simpa [he] using hcc
      subst hcc2
      clear he hcc
      go_wp2_with (fail)
      go_meet
      exact ⟨rfl, HP1.out⟩
  obtain ⟨rfl, hp1'⟩ := hcut
  have HP1' := hd hp1'
  clear hp1' HP1
  go_upto_if 63 with (fail)
  go_cut [7] (fun v wx => v = .int .i64 p2.2 ∧ FPost w3 b gs gf p2.1.toF wx)
  case first =>
    have e2 := H2.out
    have oo := HO.out.2.1
    obtain ⟨t1, t2⟩ := then_clr (t := 1) HCC.out
    cases cc with
    | true =>
      rw [t1 rfl] at e2
      have HW := hd (st_wipe 1 HP1'.out oo p2.1 p2.2 e2)
      clear oo e2 t1 t2 HCC
      go_wp2_with (fail)
      refine HW.out.mono ?_
      rintro e w4 ⟨rfl, hp⟩
      go_wp2_with (fail)
      go_meet
      exact ⟨rfl, hp⟩
    | false =>
      rw [t2 rfl] at e2
      subst e2
      clear oo t1 t2 HCC
      go_wp2_with (fail)
      go_meet
      exact ⟨rfl, HP1'.out⟩
  obtain ⟨rfl, hp2⟩ := hcut
  have HP2 := hd hp2
  clear hp2 HP1' H2 HCC
  go_upto_if 67 with (fail)
  go_cut [7] (fun v wx => v = .int .i64 p3.2 ∧ FPost w3 b gs gf p3.1.toF wx)
  case first =>
    have e3 := H3.out
    have oo := HO.out.2.2.1
    obtain ⟨s1, er1⟩ := p2
    simp only at HP2 oo ⊢
    by_cases he : er1 = 0
    · subst he
      rw [then_go] at e3
      have HW := hd (fun w' (h' : FPost w3 b gs gf s1.toF w') => st_write 0 pg HPL.out h' oo p3.1 p3.2 e3)
      clear oo e3
      go_wp2_with (fail)
      refine (HPg.out _).mono ?_
      rintro e w4 ⟨rfl, hb4⟩
      have HP2' := hd (HP2.out.grown hb4)
      clear hb4
      go_wp2_with (fail)
      refine (HW.out _ HP2'.out).mono ?_
      rintro e w5 ⟨rfl, hp⟩
      go_wp2_with (fail)
      go_meet
      exact ⟨rfl, hp⟩
    · rw [then_stop he] at e3
      subst e3
      have hs : (er1 == 0) = false := by simpa using he
      clear he oo
      go_wp2_with (fail)
      go_meet
      exact ⟨rfl, HP2.out⟩
  obtain ⟨rfl, hp3⟩ := hcut
  have HP3 := hd hp3
  clear hp3 HP2 H3
  go_upto_if 72 with (fail)
  go_cut [7] (fun v wx => v = .int .i64 p4.2 ∧ FPost w3 b gs gf p4.1.toF wx)
  case first =>
    have e4 := H4.out
    have oo := HO.out.2.2.2
    obtain ⟨s1, er1⟩ := p3
    simp only at HP3 oo ⊢
    by_cases he : er1 = 0
    · subst he
      rw [then_go] at e4
      have HW := hd (st_sync 0 HP3.out oo p4.1 p4.2 e4)
      clear oo e4
      go_wp2_with (fail)
      refine HW.out.mono ?_
      rintro e w5 ⟨rfl, hp⟩
      go_wp2_with (fail)
      go_meet
      exact ⟨rfl, hp⟩
    · rw [then_stop he] at e4
      subst e4
      have hs : (er1 == 0) = false := by simpa using he
      clear he oo
      go_wp2_with (fail)
      go_meet
      exact ⟨rfl, HP3.out⟩
  obtain ⟨rfl, hp4⟩ := hcut
  have HP4 := hd hp4
  clear hp4 HP3 H4
  obtain ⟨s4, er4⟩ := p4
  simp only at HP4 ⊢
  by_cases he : er4 = 0
  · subst he
    go_wp2_with (fail)
    refine bodyPost_ret (res4 rfl _ _ _) rfl ?_
    exact ropen_done (L := ⟨0, 1, 0, false⟩) hlts.out HB3.out HP4.out (Nat.le_refl _) (Kd.R_nil _ _ _ _ (fun _ => True))
  · have hs : (er4 != 0) = true := by simpa using he
    have HE := hd he
    clear he
    go_wp2_with (fail)
    refine bodyPost_ret (res4 rfl _ _ _) rfl ?_
    exact ⟨FPost.from HB3.out HP4.out, .inl ⟨HE.out, rfl⟩⟩
end Go.Proofs.YtjmejamgbinigaaGreatDoor
namespace Go.Proofs.YtjmejamgbinigaaGreatDoor
set_option linter.unusedVariables false
set_option linter.unusedSimpArgs false
open Go.RowKit Go.Proofs.YtjmejamgbinigaaGreatDoorW.PrintWords Go.Proofs.YtjmejamgbinigaaGreatDoorW.PrintLast
theorem cut_all {s : RS} {t : Int} {n : Nat} : cutTo s t n n = (s, 0) := if_pos rfl
theorem cut_some' {s : RS} {t : Int} {n m : Nat} (h : n ≠ m) : cutTo s t n m = s.trim t n := if_neg h
set_option maxHeartbeats 3200000 in
set_option maxRecDepth 100000 in
theorem ropen_old (w : World) (b gs gf : Nat) (s : RS) (hF : FRaw w b gs gf s.toF) (hok : s.Ok) (x0 x1 : ByteArray) (e0 e1 : Int) (b0 b1 : ByteArray) (l0 l1 : List ByteArray) (n0 n1 : Nat)
    (HR0 : Hd (Calls Tryz.prog 37 #[.pointer (some ⟨b, 0, none⟩), .int .i64 0] w fun e w' => e = .returned (.tuple #[.string x0, .int .i64 0]) ∧ w = w'))
    (HR1 : Hd (Calls Tryz.prog 37 #[.pointer (some ⟨b, 0, none⟩), .int .i64 1] w fun e w' => e = .returned (.tuple #[.string x1, .int .i64 0]) ∧ w = w'))
    (HS0 : Hd (Calls Tryz.prog 38 #[.string x0] w fun e w' => ∃ A c, e = .returned (.tuple #[.int .i64 e0, .string b0, .slice A l0.length c, .int .i64 n0]) ∧ Kd.R Kd.string 9 w' w.heap.size (fun _ => True) (.slice A l0.length c) l0 ∧ Below w.heap.size w w'))
    (HS1 : Hd (∀ w1, Calls Tryz.prog 38 #[.string x1] w1 fun e w' => ∃ A c, e = .returned (.tuple #[.int .i64 e1, .string b1, .slice A l1.length c, .int .i64 n1]) ∧ Kd.R Kd.string 9 w' w1.heap.size (fun _ => True) (.slice A l1.length c) l1 ∧ Below w1.heap.size w1 w'))
    (hne : (e0 == 0 && e1 == 0) = false) (t ep : Int) (bs : ByteArray) (recs : List ByteArray) (rt : Nat) (mi th : ByteArray)
    (hpick : Hd ((e0 < e1 ∧ t = 1 ∧ ep = e1 ∧ bs = b1 ∧ recs = l1 ∧ rt = n1 ∧ mi = x1 ∧ th = x0) ∨ (¬ e0 < e1 ∧ t = 0 ∧ ep = e0 ∧ bs = b0 ∧ recs = l0 ∧ rt = n0 ∧ mi = x0 ∧ th = x1)))
    (hrt : rt ≤ mi.size) (hmi : mi.size ≤ 4194304) (ht : wrap64 (1 - t) = 1 - t)
    (p1 p2 : RS × Int) (h1 : cutTo s t rt mi.size = p1) (h2 : andThen p1 (fun s => clr s (1 - t) (bsL th)) = p2) :
    Calls Tryz.prog 10 #[.pointer (some ⟨b, 0, none⟩)] w (ROpenPost w b gs gf p2.1 p2.2 ⟨t, ep, recs.length, false⟩ bs recs) := by
  have o1 : p1.1.Ok := h1 ▸ cutTo_ok hok t _ _
  have HO := hd (And.intro hok o1)
  have hlts := hd hF.lts
  have HF := hd hF
  have H1 := hd h1
  have H2 := hd h2
  have HT := hd ht
  have HNE := hd hne
  clear h1 h2 o1 hok hF ht hne
  go_enter Tryz.func10, Tryz.ntmps10
  go_wp2_with (fail)
  refine HR0.out.mono ?_
  rintro e w1 ⟨rfl, rfl⟩
  go_wp2_with (fail)
  refine HR1.out.mono ?_
  rintro e w1 ⟨rfl, rfl⟩
  go_wp2_with (fail)
  refine HS0.out.mono ?_
  rintro e w2 ⟨A0, c0, rfl, hk0, hb2⟩
  have HB2 := hd hb2
  have HK0 := hd hk0
  clear hb2 hk0
  go_wp2_with (fail)
  refine (HS1.out _).mono ?_
  rintro e w3 ⟨A1, c1, rfl, hk1, hb3⟩
  have HB3' := hd hb3
  have HK1 := hd hk1
  clear hb3 hk1
  go_upto_region 7 with (fail)
  have HB3 := hd (HB2.out.trans (HB3'.out.mono HB2.out.size))
  have HP0 := hd ((FRaw.chg HF.out (Chg.of_below HB3.out (fun _ => False)) id id id).post)
  have HV0 : Hd (∃ B, w.heap.size ≤ B ∧ Kd.R Kd.string 9 w3 B (fun _ => True) (.slice A0 l0.length c0) l0) := hd ⟨_, Nat.le_refl _, Kd.R_below HK0.out HB3'.out⟩
  have HV1 : Hd (∃ B, w.heap.size ≤ B ∧ Kd.R Kd.string 9 w3 B (fun _ => True) (.slice A1 l1.length c1) l1) := hd ⟨_, HB2.out.size, HK1.out⟩
  clear HF HR0 HR1 HS0 HS1 HK0 HK1 HB3' HB2
  go_cut [53] (fun v wx => v = .bool false ∧ w3 = wx)
  case first =>
    have hne := HNE.out
    by_cases hz : e0 = 0
    · have q : (e1 == 0) = false := by rw [hz] at hne; simpa using hne
      subst hz
      clear hne
      go_wp2_with (fail)
      all_goals
        go_meet
        exact ⟨rfl, rfl⟩
    · have q : (e0 == 0) = false := by simpa using hz
      clear hne hz
      go_wp2_with (fail)
      all_goals
        go_meet
        exact ⟨rfl, rfl⟩
  obtain ⟨rfl, rfl⟩ := hcut
  go_upto_if 85 with (fail)
  go_cut [10, 11, 12, 13, 18, 19, 20] (fun v1 v2 v3 v4 v5 v6 v7 wx => ∃ A c B, v1 = .int .i64 ep ∧ v2 = .string bs ∧ v3 = .slice A recs.length c ∧ v4 = .int .i64 rt ∧ v5 = .int .i64 t ∧ v6 = .string mi ∧ v7 = .string th ∧ w3 = wx ∧ w.heap.size ≤ B ∧ Kd.R Kd.string 9 w3 B (fun _ => True) (.slice A recs.length c) recs)
  case first =>
    rcases hpick.out with ⟨hlt, rfl, rfl, rfl, rfl, rfl, rfl, rfl⟩ | ⟨hlt, rfl, rfl, rfl, rfl, rfl, rfl, rfl⟩
    · clear hpick H1 H2 HT
      go_wp2_with (fail)
      go_meet
      obtain ⟨B, hB, hv⟩ := HV1.out
      exact ⟨_, _, B, rfl, rfl, rfl, rfl, rfl, rfl, rfl, rfl, hB, hv⟩
    · clear hpick H1 H2 HT
      go_wp2_with (fail)
      go_meet
      obtain ⟨B, hB, hv⟩ := HV0.out
      exact ⟨_, _, B, rfl, rfl, rfl, rfl, rfl, rfl, rfl, rfl, hB, hv⟩
  obtain ⟨A, c, B, rfl, rfl, rfl, rfl, rfl, rfl, rfl, rfl, hB, hv⟩ := hcut
  have HV := hd (And.intro hB hv)
  clear hB hv HV0 HV1
  go_upto_if 95 with (fail)
  go_cut [7] (fun v wx => v = .int .i64 p1.2 ∧ FPost w3 b gs gf p1.1.toF wx)
  case first =>
    have e1 := H1.out
    have oo := HO.out.1
    by_cases hx : rt = mi.size
    · rw [hx, cut_all] at e1
      subst e1
      subst hx
      clear oo
      go_wp2_with (fail)
      go_meet
      exact ⟨rfl, HP0.out⟩
    · have hlt : (rt : Int) < (mi.size : Int) := by omega
      rw [cut_some' hx] at e1
      have HW := hd (st_trim t rt HP0.out oo p1.1 p1.2 e1)
      clear hx oo e1
      go_wp2_with (fail)
      refine HW.out.mono ?_
      rintro e w4 ⟨rfl, hp⟩
      go_wp2_with (fail)
      go_meet
      exact ⟨rfl, hp⟩
  obtain ⟨rfl, hp1⟩ := hcut
  have HP1 := hd hp1
  clear hp1 H1
  go_upto_region 26 with (fail)
  obtain ⟨cc, hcc⟩ : ∃ cc, (decide (p1.2 = 0) && !th.toList.isEmpty) = cc := ⟨_, rfl⟩
  have HCC := hd hcc
  clear hcc
  go_cut [105] (fun v wx => v = .bool cc ∧ FPost w3 b gs gf p1.1.toF wx)
  case first =>
    have hcc := HCC.out
    by_cases he : p1.2 = 0
    · have he2 : (p1.2 == 0) = true := by simpa using he
      have hcc2 : (!th.toList.isEmpty) = cc := by simpa [he] using hcc
      clear he hcc
      go_wp2_with (fail)
      go_meet
      exact ⟨rfl, HP1.out⟩
    · have he2 : (p1.2 == 0) = false := by simpa using he
      have hcc2 : false = cc := by simpa [he] using hcc
      subst hcc2
      clear he hcc
      go_wp2_with (fail)
      go_meet
      exact ⟨rfl, HP1.out⟩
  obtain ⟨rfl, hp1'⟩ := hcut
  have HP1' := hd hp1'
  clear hp1' HP1
  go_upto_if 105 with (fail)
  go_cut [7] (fun v wx => v = .int .i64 p2.2 ∧ FPost w3 b gs gf p2.1.toF wx)
  case first =>
    have e2 := H2.out
    have oo := HO.out.2
    obtain ⟨t1, t2⟩ := then_clr (t := 1 - t) HCC.out
    cases cc with
    | true =>
      rw [t1 rfl] at e2
      have HW : Hd (Calls Tryz.prog 39 #[.pointer (some ⟨b, 0, none⟩), .int .i64 (wrap64 (1 - t))] _ _) := hd (by rw [HT.out]; exact st_wipe (1 - t) HP1'.out oo p2.1 p2.2 e2)
      clear oo e2 t1 t2 HCC
      go_wp2_with (fail)
      refine HW.out.mono ?_
      rintro e w4 ⟨rfl, hp⟩
      go_wp2_with (fail)
      go_meet
      exact ⟨rfl, hp⟩
    | false =>
      rw [t2 rfl] at e2
      subst e2
      clear oo t1 t2 HCC
      go_wp2_with (fail)
      go_meet
      exact ⟨rfl, HP1'.out⟩
  obtain ⟨rfl, hp2⟩ := hcut
  have HP2 := hd hp2
  clear hp2 HP1' H2 HCC
  obtain ⟨s2, er2⟩ := p2
  simp only at HP2 ⊢
  by_cases he : er2 = 0
  · subst he
    go_wp2_with (fail)
    refine bodyPost_ret (res4 rfl _ _ _) rfl ?_
    exact ropen_done (L := ⟨t, ep, recs.length, false⟩) hlts.out HB3.out HP2.out HV.out.1 HV.out.2
  · have hs : (er2 != 0) = true := by simpa using he
    have HE := hd he
    clear he
    go_wp2_with (fail)
    refine bodyPost_ret (res4 rfl _ _ _) rfl ?_
    exact ⟨FPost.from HB3.out HP2.out, .inl ⟨HE.out, rfl⟩⟩
/-- Open of every reel of the document's. -/
theorem ropen_any (w : World) (b gs gf : Nat) (s : RS) (hF : FRaw w b gs gf s.toF) (hok : s.Ok) (hl0 : (tapeOf s 0).length ≤ 4194304) (hl1 : (tapeOf s 1).length ≤ 4194304)
    (HS : ∀ (x : ByteArray) (w1 : World), x.size ≤ 4194304 → Calls Tryz.prog 38 #[.string x] w1 fun e w' => ∃ A c, e = .returned (.tuple #[.int .i64 (scanL (bsL x)).1, .string (str (scanL (bsL x)).2.1), .slice A ((scanL (bsL x)).2.2.1.map str).length c, .int .i64 ((scanL (bsL x)).2.2.2 : Nat)]) ∧
      Kd.R Kd.string 9 w' w1.heap.size (fun _ => True) (.slice A ((scanL (bsL x)).2.2.1.map str).length c) ((scanL (bsL x)).2.2.1.map str) ∧ Below w1.heap.size w1 w') :
    Calls Tryz.prog 10 #[.pointer (some ⟨b, 0, none⟩)] w
      (ROpenPost w b gs gf (openM s).1 (openM s).2 (openOf (tapeOf s 0) (tapeOf s 1)) (str (pickC (tapeOf s 0) (tapeOf s 1)).2.1) ((pickC (tapeOf s 0) (tapeOf s 1)).2.2.1.map str)) := by
  cases hd0 : s.dead with
  | true =>
    rw [open_dead_m hd0]
    have hr : s.read 0 = ([], 30) := by unfold RS.read; rw [if_neg (by omega), if_pos hd0]
    have HR := hd (rread_any b gs gf 0 s w hF)
    rw [hr] at HR
    have HP := hd hF.post
    clear hF hok HS hd0 hr
    go_enter Tryz.func10, Tryz.ntmps10
    go_wp2_with (go_at_call 37; refine HR.out.mono ?_; rintro e w1 ⟨rfl, rfl⟩)
    refine bodyPost_ret (res4 rfl _ _ _) rfl ?_
    exact ⟨HP.out, .inl ⟨by decide, rfl⟩⟩
  | false =>
    have hnd : ¬ s.dead = true := by rw [hd0]; decide
    have hr : ∀ t : Int, t = 0 ∨ t = 1 → s.read t = (tapeOf s t, 0) := by
      intro t ht
      unfold RS.read tapeOf
      rw [if_neg (by omega), if_neg hnd]
    have HR0 := hd (rread_any b gs gf 0 s w hF)
    rw [hr 0 (.inl rfl)] at HR0
    have HR1 := hd (rread_any b gs gf 1 s w hF)
    rw [hr 1 (.inr rfl)] at HR1
    obtain ⟨x0, hx0⟩ : ∃ x0, str (tapeOf s 0) = x0 := ⟨_, rfl⟩
    obtain ⟨x1, hx1⟩ : ∃ x1, str (tapeOf s 1) = x1 := ⟨_, rfl⟩
    have ht0 : tapeOf s 0 = bsL x0 := by rw [← hx0, bs_of]
    have ht1 : tapeOf s 1 = bsL x1 := by rw [← hx1, bs_of]
    have z0 := bs_size x0
    have z1 := bs_size x1
    rw [ht0] at hl0
    rw [ht1] at hl1
    have S0 := fun w1 => HS x0 w1 (by omega)
    have S1 := fun w1 => HS x1 w1 (by omega)
    rw [ht0, ht1]
    simp only [hx0] at HR0
    simp only [hx1] at HR1
    by_cases hz : (scanL (bsL x0)).1 = 0 ∧ (scanL (bsL x1)).1 = 0
    · have q0 := scan_zero hz.1
      have q1 := scan_zero hz.2
      have hpc : pickC (bsL x0) (bsL x1) = (0, [], [], 0) := by
        unfold pickC
        rw [q0, q1]
        rfl
      have hof : openOf (bsL x0) (bsL x1) = ⟨0, 1, 0, false⟩ := by
        unfold openOf pickT
        rw [hpc, q0, q1]
        rfl
      have hm := open_new_m hnd ht0 ht1 (by rw [hpc])
      have hpl : (laidL kBase 1 []).length ≤ 600000 := laid_size kBase 1 [] (by decide) (by unfold inI64; omega) (by simp)
      rw [hof, hpc, hm]
      refine ropen_new w b gs gf s hF hok x0 x1 (.slice none 0 0) (.slice none 0 0) 0 0 (laidL kBase 1 []) (by omega) HR0 HR1 (hd ?_) (hd ?_) (hd ?_) _ _ _ _ rfl rfl rfl rfl
      · refine (S0 w).mono ?_
        rw [q0]
        rintro e w' ⟨A, c, rfl, _, hb⟩
        exact ⟨_, rfl, hb⟩
      · intro w1 hb1
        refine (S1 w1).mono ?_
        rw [q1]
        rintro e w' ⟨A, c, rfl, _, hb⟩
        exact ⟨_, rfl, hb1.trans (hb.mono hb1.size)⟩
      · intro w1
        exact page_call ⟨#[98, 97, 115, 101]⟩ 1 ⟨#[]⟩ w1 (by decide) (by omega) (by unfold inI64; omega) (by decide)
    · obtain ⟨a0, a1, a2, a3⟩ := scanL_facts (bsL x0)
      obtain ⟨c0, c1, c2, c3⟩ := scanL_facts (bsL x1)
      by_cases hlt : (scanL (bsL x0)).1 < (scanL (bsL x1)).1
      · have hpc : pickC (bsL x0) (bsL x1) = scanL (bsL x1) := if_pos hlt
        have hpt : pickT (bsL x0) (bsL x1) = 1 := if_pos hlt
        have hz1 : ¬ (scanL (bsL x1)).1 = 0 := by omega
        have hof : openOf (bsL x0) (bsL x1) = ⟨1, (scanL (bsL x1)).1, ((scanL (bsL x1)).2.2.1.map str).length, false⟩ := by
          unfold openOf
          rw [hpc, hpt, if_neg hz1, List.length_map]
        have hm := open_old_m hnd ht0 ht1 (by rw [hpc]; exact hz1)
        rw [hof, hm, hpc, hpt, if_neg (by decide), if_neg (by decide)]
        exact ropen_old w b gs gf s hF hok x0 x1 _ _ _ _ _ _ _ _ HR0 HR1 (hd (S0 w)) (hd S1) (by simp [hz1]) 1 _ _ _ _ x1 x0 (hd (.inl ⟨hlt, rfl, rfl, rfl, rfl, rfl, rfl, rfl⟩)) (by omega) (by omega) (wrap_id (by omega) (by omega)) _ _ (by rw [z1]) rfl
      · have hpc : pickC (bsL x0) (bsL x1) = scanL (bsL x0) := if_neg hlt
        have hpt : pickT (bsL x0) (bsL x1) = 0 := if_neg hlt
        have hz1 : ¬ (scanL (bsL x0)).1 = 0 := fun q => hz ⟨q, by omega⟩
        have hof : openOf (bsL x0) (bsL x1) = ⟨0, (scanL (bsL x0)).1, ((scanL (bsL x0)).2.2.1.map str).length, false⟩ := by
          unfold openOf
          rw [hpc, hpt, if_neg hz1, List.length_map]
        have hm := open_old_m hnd ht0 ht1 (by rw [hpc]; exact hz1)
        rw [hof, hm, hpc, hpt, if_pos rfl, if_pos rfl]
        exact ropen_old w b gs gf s hF hok x0 x1 _ _ _ _ _ _ _ _ HR0 HR1 (hd (S0 w)) (hd S1) (by simp [hz1]) 0 _ _ _ _ x0 x1 (hd (.inr ⟨hlt, rfl, rfl, rfl, rfl, rfl, rfl, rfl⟩)) (by omega) (by omega) (wrap_id (by omega) (by omega)) _ _ (by rw [z0]) rfl
end Go.Proofs.YtjmejamgbinigaaGreatDoor
namespace Go.Proofs.YtjmejamgbinigaaGreatDoor
set_option linter.unusedVariables false
set_option linter.unusedSimpArgs false
open Go.RowKit Go.Proofs.YtjmejamgbinigaaGreatDoor.XSm Go.Proofs.YtjmejamgbinigaaGreatDoorW.PrintWords Go.Proofs.YtjmejamgbinigaaGreatDoorW.PrintLast
theorem same_loop2 (x0 x1 : List ByteArray) (hl : x0.length = x1.length) (hm : x0.length ≤ 1000000000) : ∀ (d i : Nat), i + d = x0.length → furlongref01_Same.l0 (d + 1) x0 x1 (i : Int) = some (decide (x0.drop i = x1.drop i))
  | 0, i, h => by
    rw [furlongref01_Same.l0, if_neg (by omega), List.drop_eq_nil_of_le (by omega), List.drop_eq_nil_of_le (by omega)]
    rfl
  | d + 1, i, h => by
    have h0 : i < x0.length := by omega
    have h1 : i < x1.length := by omega
    rw [furlongref01_Same.l0, if_pos (by omega), if_pos (by omega), if_pos (by omega)]
    have r0 : rdOf ByteArray.empty x0 (i : Int) = x0[i] := by simp [rdOf, h0]
    have r1 : rdOf ByteArray.empty x1 (i : Int) = x1[i] := by simp [rdOf, h1]
    rw [r0, r1, bs_toList, bs_toList, wrap_id (by omega) (by omega)]
    have ih := same_loop2 x0 x1 hl hm d (i + 1) (by omega)
    rw [show ((i + 1 : Nat) : Int) = (i : Int) + 1 by omega] at ih
    rw [ih, List.drop_eq_getElem_cons h0, List.drop_eq_getElem_cons h1]
    by_cases he : bsL x0[i] = bsL x1[i]
    · have he2 : x0[i] = x1[i] := by rw [← of_bs x0[i], ← of_bs x1[i], he]
      rw [if_pos he, he2]
      congr 1
      exact decide_eq_decide.2 ⟨fun q => by rw [q], fun q => (List.cons.inj q).2⟩
    · rw [if_neg he]
      congr 1
      exact (decide_eq_false (fun q => he (by rw [(List.cons.inj q).1]))).symm
theorem same_eq2 (x0 x1 : List ByteArray) (hm : x0.length ≤ 1000000000) : furlongref01_Same.f (x0.length + 1) x0 x1 = some (decide (x0 = x1)) := by
  unfold furlongref01_Same.f
  by_cases hl : x0.length = x1.length
  · rw [if_pos (by omega)]
    have := same_loop2 x0 x1 hl hm x0.length 0 (by omega)
    simpa using this
  · rw [if_neg (by omega)]
    congr 1
    have : x0 ≠ x1 := fun q => hl (by rw [q])
    simp [this]
theorem same_call2 {w : World} {v0 v1 : Value} {l0 l1 : List ByteArray} {A0 A1 : Option Addr} {c0 c1 : Nat} (h0 : v0 = .slice A0 l0.length c0 ∧ l0.length ≤ c0 ∧ Kd.C Kd.string w A0 l0.length l0) (h1 : v1 = .slice A1 l1.length c1 ∧ l1.length ≤ c1 ∧ Kd.C Kd.string w A1 l1.length l1) (hm : l0.length ≤ 1000000000) :
    Calls Tryz.prog 19 #[v0, v1] w fun e w' => e = .returned (.bool (decide (l0 = l1))) ∧ Drawn0 w w' := by
  obtain ⟨rfl, h2, h3⟩ := h0
  obtain ⟨rfl, h4, h5⟩ := h1
  exact furlongref01_Same.calls (l0.length + 1) A0 c0 l0 A1 c1 l1 _ w h3 h2 h5 h4 (same_eq2 l0 l1 hm)
section
variable {w0 w : World} {rb b gs gf : Nat} {s s' s1 : RS} {x : FS} {fp : List Nat} {er : Int}
theorem p_open_err (hG : Gl w0) (h : Reels w0 w rb b gs gf s x fp) (ho : openM s = (s1, er)) (he : er ≠ 0) :
    Calls Tryz.prog 9 #[.pointer (some ⟨rb, 0, none⟩)] w fun r w' => r = .returned (.tuple #[.pointer none, .string ⟨#[]⟩, .slice none 0 0, .int .i64 er]) ∧ ∃ fp', Reels w0 w' rb b gs gf s1 x fp' := by
  refine (open_any w0 w hG h.mine.below rb s fp h.mine.at_ h.mine.low).mono ?_
  rintro r w' hp
  rw [ho] at hp
  obtain ⟨fp', a, c, f, q⟩ := hp
  rcases q with ⟨_, rfl⟩ | ⟨q, _⟩
  · obtain ⟨fp'', h', _⟩ := h.rleft ⟨fp', a, c, f⟩
    exact ⟨rfl, fp'', h'⟩
  · exact absurd q he
theorem p_open_ok (hG : Gl w0) (h : Reels w0 w rb b gs gf s x fp) (ho : openM s = (s1, 0)) :
    Calls Tryz.prog 9 #[.pointer (some ⟨rb, 0, none⟩)] w fun r w' => ∃ lb v, r = .returned (.tuple #[.pointer (some ⟨lb, 0, none⟩), .string (str (pickC (tapeOf s 0) (tapeOf s 1)).2.1), v, .int .i64 0]) ∧
      ∃ fp' B, Reels w0 w' rb b gs gf s1 x fp' ∧ Lg w0 w' rb fp' lb (openOf (tapeOf s 0) (tapeOf s 1)) ∧ lb ∉ FFoot b gs gf ∧ Kd.R Kd.string 9 w' B (fun k => k ∉ FFoot b gs gf) v ((pickC (tapeOf s 0) (tapeOf s 1)).2.2.1.map str) := by
  have hlt := h.raw.lt'
  have hs := h.mine.below.size
  refine (open_any w0 w hG h.mine.below rb s fp h.mine.at_ h.mine.low).mono ?_
  rintro r w' hp
  rw [ho] at hp
  obtain ⟨fp', a, c, f, q⟩ := hp
  rcases q with ⟨q, _⟩ | ⟨_, lb, v, B, rfl, h1, h2, h3, h4, h5⟩
  · exact absurd rfl q
  · have hm : MineL w0 w' rb s1 fp' := ⟨h.mine.below.trans (c.below hs h.mine.low), a, fun k hk => (f k hk).elim (h.mine.low k) (fun q => by omega)⟩
    refine ⟨lb, v, rfl, fp', B, h.left hm c (fun i hi => (h.apart i hi).2) f, ⟨h3, h2, by omega⟩, fun q => by have := hlt lb q; omega, Kd.R_mono h5 (fun k hk q => by have := hlt k q; have := hk.1; omega)⟩
theorem q_open_err (h : Reels w0 w rb b gs gf s' s.toF fp) (hs : s.Ok) (ho : openM s = (s1, er)) (he : er ≠ 0) :
    Calls Tryz.prog 10 #[.pointer (some ⟨b, 0, none⟩)] w fun r w' => r = .returned (.tuple #[.pointer none, .string ⟨#[]⟩, .slice none 0 0, .int .i64 er]) ∧ Reels w0 w' rb b gs gf s' s1.toF fp := by
  refine (ropen_any w b gs gf s h.raw hs (tape_le hs 0) (tape_le hs 1) rscan_call).mono ?_
  rintro r w' hp
  rw [ho] at hp
  obtain ⟨p, q⟩ := hp
  rcases q with ⟨_, rfl⟩ | ⟨q, _⟩
  · exact ⟨rfl, (h.rright p).1⟩
  · exact absurd q he
theorem q_open_ok {lb B : Nat} {v : Value} (h : Reels w0 w rb b gs gf s' s.toF fp) (hs : s.Ok) (ho : openM s = (s1, 0)) (hl : Lg w0 w rb fp lb (openOf (tapeOf s 0) (tapeOf s 1))) (hlb : lb ∉ FFoot b gs gf)
    (hv : Kd.R Kd.string 9 w B (fun k => k ∉ FFoot b gs gf) v ((pickC (tapeOf s 0) (tapeOf s 1)).2.2.1.map str)) :
    Calls Tryz.prog 10 #[.pointer (some ⟨b, 0, none⟩)] w fun r w' => ∃ qb v2, r = .returned (.tuple #[.pointer (some ⟨qb, 0, none⟩), .string (str (pickC (tapeOf s 0) (tapeOf s 1)).2.1), v2, .int .i64 0]) ∧
      Reels w0 w' rb b gs gf s' s1.toF fp ∧ Leds w0 w' rb b gs gf fp lb qb (openOf (tapeOf s 0) (tapeOf s 1)) (openOf (tapeOf s 0) (tapeOf s 1)) ∧
      (∃ B, Kd.R Kd.string 9 w' B (fun _ => True) v ((pickC (tapeOf s 0) (tapeOf s 1)).2.2.1.map str)) ∧ (∃ B, Kd.R Kd.string 9 w' B (fun _ => True) v2 ((pickC (tapeOf s 0) (tapeOf s 1)).2.2.1.map str)) := by
  have hlt := h.raw.lt'
  have hflt := h.mine.lt
  have hllt := hl.blk.lt
  have hsz := h.mine.below.size
  refine (ropen_any w b gs gf s h.raw hs (tape_le hs 0) (tape_le hs 1) rscan_call).mono ?_
  rintro r w' hp
  rw [ho] at hp
  obtain ⟨p, q⟩ := hp
  rcases q with ⟨q, _⟩ | ⟨_, qb, v2, B2, rfl, h1, h2, h3, h4⟩
  · exact absurd rfl q
  · have hr := h.rright p
    refine ⟨qb, v2, rfl, hr.1, ⟨⟨hl.blk.chg p.chg hlb, hl.out, hl.low⟩, h2, by omega, fun q => by have := hflt qb q; omega, fun q => by have := hlt qb q; omega, by omega, hlb⟩, ⟨B, ?_⟩, B2, Kd.R_mono h4 (fun _ _ => trivial)⟩
    exact Kd.R_mono (Kd.R_step hv (fun k hk hk2 => p.chg.block k hk2 hk)) (fun _ _ => trivial)
end
end Go.Proofs.YtjmejamgbinigaaGreatDoor
