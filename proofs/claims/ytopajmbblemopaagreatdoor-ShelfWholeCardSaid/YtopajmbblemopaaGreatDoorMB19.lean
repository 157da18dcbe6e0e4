/-
  Lemmas, joined of the texts S4 S5.
-/
import Derived.Test.YtopajmbblemopaaGreatDoorMB7
import Derived.Test.YtopajmbblemopaaGreatDoorMB14
import Derived.Maps.StringElems
import Derived.Maps.Views
namespace Go.Proofs.YtopajmbblemopaaGreatDoor
set_option linter.unusedVariables false
set_option linter.unusedSimpArgs false
open Go.RowKit Go.Maps Go.WideMaps
theorem mkeyed : Keyed Tryz.prog 9 := string_keyed Tryz.underlying9
theorem mzero (w : World) : (zeroValue 9).run Tryz.prog w = .ok (.string ByteArray.empty) w := by kernel_rfl
noncomputable abbrev EL : Value → Option (DU × List MemPlace) := plainElem Tryz.prog 9
theorem mval {s : ByteArray} (hs : s.size ≤ maxLen) : EL (.string s) = some (.lit (.string (bsL s)), []) := plainElem_string Tryz.underlying9 hs
theorem mkey {s : ByteArray} (hs : s.size ≤ maxLen) : keyOf Tryz.prog 9 (.string s) = some (.string (bsL s)) := by
  rw [keyOf_string Tryz.underlying9]
  simp [mapKey, Tryz.underlying9, hs]
  rfl
/-- Block b is the map of these pairs. -/
structure MapAt (w : World) (b : Nat) (p : Sh) : Prop where
  own : w.ownsMap Tryz.prog 9 EL b p.length (mapD p)
  rises : Rises p
theorem own_tight {w : World} {b n : Nat} {p : Sh} (h : w.ownsMap Tryz.prog 9 EL b n (mapD p)) : w.ownsMap Tryz.prog 9 EL b p.length (mapD p) := by
  have hs : Maps.size (mapD p) = p.length := by simp [mapD, Maps.size]
  obtain ⟨es, clock, hb, F, hn, hD⟩ := h
  have e1 : Maps.size (DataW.map ((es.toList.map (Go.WideElems.rg Tryz.prog 9 EL)).foldr DataW.insert [])) = es.size := by simp [Maps.size, length_sorted]
  rw [← hD, hs] at e1
  exact ⟨es, clock, hb, F, by omega, hD⟩
theorem MapAt.put {w w' : World} {b n : Nat} {p : Sh} (h : MapAt w b p) {k v : Txt} (o : w'.ownsMap Tryz.prog 9 EL b n ((mapD p).put (.string k) (.lit (.string v)))) : MapAt w' b (putS k v p) := by
  rw [mapD_put h.rises] at o
  exact ⟨own_tight o, rises_put h.rises k v⟩
theorem MapAt.del {w w' : World} {b n : Nat} {p : Sh} (h : MapAt w b p) {k : Txt} (o : w'.ownsMap Tryz.prog 9 EL b n ((mapD p).del (.string k))) : MapAt w' b (delS k p) := by
  rw [mapD_del h.rises] at o
  exact ⟨own_tight o, rises_del h.rises k⟩
theorem MapAt.lt {w : World} {b : Nat} {p : Sh} (h : MapAt w b p) : b < w.heap.size := h.own.lt
theorem MapAt.chg {S : Nat → Prop} {w w' : World} {b : Nat} {p : Sh} (h : MapAt w b p) (c : Chg S w w') (hS : ¬ S b) : MapAt w' b p := by
  have hlt := h.lt
  obtain ⟨⟨es, clock, hb, F, hn, hD⟩, hr⟩ := h
  exact ⟨⟨es, clock, (c.block b hlt hS).trans hb, F, hn, hD⟩, hr⟩
theorem MapAt.below {w w' : World} {b : Nat} {p : Sh} (h : MapAt w b p) (hb : Below w.heap.size w w') : MapAt w' b p := h.chg (Chg.of_below hb (fun _ => False)) id
theorem MapAt.new (w : World) : MapAt (w.alloc (.map #[] 0)) w.heap.size [] := ⟨World.ownsMap_made w _ _ _, List.Pairwise.nil⟩
theorem has_get : ∀ (p : Sh) (k : Txt), Maps.has (mapD p) (.string k) = (getS k p).isSome
  | [], _ => rfl
  | a :: p, k => by
    have ih := has_get p k
    have hs : (prD a).1.sameKey (.string k) = decide (a.1 = k) := key_same _ _
    show ((prD a).1.sameKey (.string k) || (p.map prD).any fun q => q.1.sameKey (.string k)) = _
    have ih' : (p.map prD).any (fun q => q.1.sameKey (.string k)) = (getS k p).isSome := ih
    rw [hs, ih', getS]
    by_cases h : a.1 = k
    · rw [decide_eq_true h, if_pos h]
      rfl
    · rw [decide_eq_false h, if_neg h, Bool.false_or]
/-- What a look tells. -/
def gotS (k : Txt) (p : Sh) : Txt := match getS k p with | some v => v | none => []
theorem MapAt.look {w : World} {b : Nat} {p : Sh} (h : MapAt w b p) (k : ByteArray) (hk : k.size ≤ maxLen) (ok : Bool) :
    (Instr.lookup 81 (.map (some b)) (.string k) ok).run Tryz.prog w = .ok (if ok = true then .tuple #[.string (str (gotS (bsL k) p)), .bool (getS (bsL k) p).isSome] else .string (str (gotS (bsL k) p))) w := by
  have hzd : EL (.string ByteArray.empty) = some (.lit (.string []), []) := mval (s := ByteArray.empty) (Nat.zero_le _)
  have hval : ∀ (v : Value) (ps : List MemPlace), EL v = some ((mapD p).atKey (.string (bsL k)) (.lit (.string [])), ps) → v = .string (str (gotS (bsL k) p)) := by
    intro v ps hv
    obtain ⟨s, rfl, hs, _⟩ := plainElem_string_inv Tryz.underlying9 hv
    have e := (Prod.mk.inj hs).1
    rw [mapD_at] at e
    have e2 : bsL s = gotS (bsL k) p := by
      unfold gotS
      cases hg : getS (bsL k) p with
      | none =>
        rw [hg] at e
        simp only [DataW.lit.injEq, Lit.string.injEq] at e
        exact e.symm
      | some u =>
        rw [hg] at e
        simp only [DataW.lit.injEq, Lit.string.injEq] at e
        exact e.symm
    rw [← e2, of_bs]
  cases ok with
  | true =>
    obtain ⟨v, ps, hrun, hv⟩ := h.own.look_ok mkeyed Tryz.underlying81 (mzero w) hzd (mkey hk)
    rw [hrun, hval v ps hv, has_get]
    rfl
  | false =>
    obtain ⟨v, ps, hrun, hv⟩ := h.own.lookup mkeyed Tryz.underlying81 (mzero w) hzd (mkey hk)
    rw [hrun, hval v ps hv]
    rfl
theorem len_any (sb mb : Nat) (p : Sh) (w : World) (hc : w.cell? ⟨sb, 0, none⟩ = some (.map (some mb))) (hm : MapAt w mb p) :
    Calls Tryz.prog 17 #[.pointer (some ⟨sb, 0, none⟩)] w fun e w' => e = .returned (.int .i64 p.length) ∧ w = w' := by
  have hl := fun ty => hm.own.len Tryz.underlying81 ty
  have hs : Maps.size (mapD p) = p.length := by simp [mapD, Maps.size]
  rw [hs] at hl
  clear hm hs
  go_enter Tryz.func17, Tryz.ntmps17
  go_wp2
  go_ret
  exact ⟨rfl, rfl⟩
end Go.Proofs.YtopajmbblemopaaGreatDoor
namespace Go.Proofs.YtopajmbblemopaaGreatDoor
set_option linter.unusedVariables false
set_option linter.unusedSimpArgs false
open Go.RowKit Go.Maps Go.WideMaps
/-- A change as it lies in memory. -/
structure MC where
  key : ByteArray
  val : ByteArray
  gone : Bool
def MC.cells (c : MC) : List Value := [.string c.key, .string c.val, .bool c.gone]
def MC.toC (c : MC) : Chn := ⟨bsL c.key, c.gone, bsL c.val⟩
structure ChAt (w : World) (A : Option Addr) (l : List MC) : Prop where
  size : ∀ c ∈ l, c.key.size ≤ maxLen ∧ c.val.size ≤ maxLen
  addr : l ≠ [] → ∃ b off, A = some ⟨b, off, none⟩
  cell : ∀ (b off i j : Nat) (c : MC) (v : Value), A = some ⟨b, off, none⟩ → l[i]? = some c → c.cells[j]? = some v → w.cell? ⟨b, off + (i * 3 + j), none⟩ = some v
theorem ChAt.chg {S : Nat → Prop} {w w' : World} {A : Option Addr} {l : List MC} (h : ChAt w A l) (c : Chg S w w') (hS : ∀ b off, A = some ⟨b, off, none⟩ → ¬ S b) : ChAt w' A l :=
  ⟨h.size, h.addr, fun b off i j x v hA hi hj => by
    have h1 := h.cell b off i j x v hA hi hj
    have hb := World.block_lt_of_cell? w _ h1
    unfold World.cell? at h1 ⊢
    rw [c.block b hb (hS b off hA)]
    exact h1⟩
theorem cell_not_map {w : World} {b mb k : Nat} {p : Sh} {v : Value} (hm : MapAt w mb p) (hc : w.cell? ⟨b, k, none⟩ = some v) : b ≠ mb := by
  rintro rfl
  obtain ⟨⟨es, clock, hb, _⟩, _⟩ := hm
  unfold World.cell? at hc
  rw [hb] at hc
  simp at hc
theorem chg_cell {S : Nat → Prop} {w w' : World} (h : Chg S w w') {a : Addr} {v : Value} (hc : w.cell? a = some v) (hn : ¬ S a.block) : w'.cell? a = some v := by
  have hb := World.block_lt_of_cell? w _ hc
  unfold World.cell? at hc ⊢
  rw [h.block _ hb hn]
  exact hc
theorem mcell_alloc {w : World} {p : Addr} {v : Value} (h : w.cell? p = some v) (o : Obj) : (w.alloc o).cell? p = some v := (Below.cell ((Below.refl w.heap.size w).alloc (Nat.le_refl _) o) (World.block_lt_of_cell? w _ h)).trans h
theorem mdrew_chg (S : Nat → Prop) (w : World) : Chg S w w.drew := Chg.of_below (show Below w.heap.size w w.drew from ⟨rfl, rfl, rfl, Nat.le_refl _, fun _ _ => rfl⟩) S
theorem do_gone {p : Sh} {c : MC} (h : c.gone = true) : doC p c.toC = delS (bsL c.key) p := if_pos h
theorem do_put {p : Sh} {c : MC} (h : c.gone = false) : doC p c.toC = putS (bsL c.key) (bsL c.val) p := if_neg (by show ¬ c.gone = true; rw [h]; decide)
theorem turned_chg {w w' : World} {b : Nat} (h : w.mapTurned w' b) : Chg (fun k => k = b) w w' := by
  have g := h.grown
  exact ⟨g.os, g.tape, g.output, g.size, fun i hi hn => g.block i hi (fun q => hn (by injection q with q))⟩
theorem grown_chg {w w' : World} {b : Nat} (g : w.grownBy w' (some b)) : Chg (fun k => k = b) w w' := ⟨g.os, g.tape, g.output, g.size, fun i hi hn => g.block i hi (fun q => hn (by injection q with q))⟩
theorem len_put : ∀ (p : Sh) (k v : Txt), (putS k v p).length ≤ p.length + 1
  | [], _, _ => Nat.le_refl _
  | a :: p, k, v => by
    have := len_put p k v
    rw [putS]
    split
    · simp only [List.length_cons]; omega
    · split <;> simp
theorem len_del : ∀ (p : Sh) (k : Txt), (delS k p).length ≤ p.length
  | [], _ => Nat.le_refl _
  | a :: p, k => by
    have := len_del p k
    rw [delS]
    split
    · simp only [List.length_cons]; omega
    · split <;> simp
theorem len_all : ∀ (l : List Chn) (p : Sh), (doAll p l).length ≤ p.length + l.length
  | [], _ => Nat.le_refl _
  | c :: l, p => by
    have h1 := len_all l (doC p c)
    have h2 : (doC p c).length ≤ p.length + 1 := by
      unfold doC
      split
      · have := len_del p c.key
        omega
      · exact len_put p c.key c.val
    have e : doAll p (c :: l) = doAll (doC p c) l := rfl
    rw [e, List.length_cons]
    omega
theorem do_snoc (p : Sh) (l : List Chn) (c : Chn) : doAll p (l ++ [c]) = doC (doAll p l) c := by rw [do_app]; rfl
set_option maxHeartbeats 1600000 in
theorem do_any (sb mb : Nat) (p : Sh) (A : Option Addr) (l : List MC) (cap : Nat) (w : World) (hc : w.cell? ⟨sb, 0, none⟩ = some (.map (some mb))) (hm : MapAt w mb p) (hA : ChAt w A l) (hl : l.length ≤ 2000000) (hp : p.length ≤ 10000000000000) :
    Calls Tryz.prog 34 #[.pointer (some ⟨sb, 0, none⟩), .slice A l.length cap] w fun e w' => e = .returned (.tuple #[]) ∧ MapAt w' mb (doAll p (l.map MC.toC)) ∧ Chg (fun k => k = mb) w w' := by
  have hsb := cell_not_map hm hc
  have HA := hd hA
  have HM := hd hm
  have HC := hd hc
  clear hA hm hc
  go_enter Tryz.func34, Tryz.ntmps34
  go_wp2_with (fail)
  go_loopw [8] (fun i wr => ∃ k : Nat, k ≤ l.length ∧ i = .int .i64 k ∧ Hd (MapAt wr mb (doAll p ((l.take k).map MC.toC)) ∧ Chg (fun k => k = mb) w wr)) (fun i _ => l.length - (RowKit.intOf i).toNat)
  case atStart => exact ⟨0, by omega, rfl, hd ⟨HM.out, Chg.refl _ _⟩⟩
  case round =>
    obtain ⟨k, hk, rfl, HR⟩ := hrel
    by_cases hlt : k < l.length
    · obtain ⟨b, off, rfl⟩ := HA.out.addr (by intro h; rw [h] at hlt; simp at hlt)
      obtain ⟨c, hc⟩ : ∃ c, l[k]? = some c := ⟨_, List.getElem?_eq_getElem hlt⟩
      have hcb := HA.out.cell b off k 0 c _ rfl hc rfl
      have hbm := cell_not_map HM.out hcb
      have HA2 := HA.out.chg HR.out.2 (fun b' off' h => by injection h with h; injection h with h; subst h; exact hbm)
      have c0 := HA2.cell b off k 0 c _ rfl hc rfl
      have c1 := HA2.cell b off k 1 c _ rfl hc rfl
      have c2 := HA2.cell b off k 2 c _ rfl hc rfl
      simp only [← Nat.add_assoc, Nat.add_zero] at c0 c1 c2
      have hsz := HA.out.size c (List.mem_of_getElem? hc)
      have hs0 : wr.cell? ⟨sb, 0, none⟩ = some (.map (some mb)) := chg_cell HR.out.2 HC.out hsb
      have ht : l.take (k + 1) = l.take k ++ [c] := by rw [List.take_add_one, hc]; rfl
      have HT : Hd (doAll p ((l.take (k + 1)).map MC.toC) = doC (doAll p ((l.take k).map MC.toC)) c.toC) := hd (by rw [ht, List.map_append]; exact do_snoc _ _ _)
      clear hc ht hcb HA2
      have hB1 : ∀ g, Below wr.heap.size wr (wr.alloc (.cells #[.string c.key, .string c.val, .bool g] 51)) := fun g => (Below.refl _ _).alloc (Nat.le_refl _) _
      have hX : ∀ g, Blk (wr.alloc (.cells #[.string c.key, .string c.val, .bool g] 51)) wr.heap.size [.string c.key, .string c.val, .bool g] 51 := fun g => Blk.new wr [.string c.key, .string c.val, .bool g] 51
      have hmb : mb < wr.heap.size := HR.out.1.lt
      cases hg : c.gone with
      | true =>
        rw [hg] at c2
        have HG := hd hg
        have HX := hd (hX true)
        have HM1 := hd (HR.out.1.below (hB1 true))
        have HB1 := hd (hB1 true)
        have hs1 : (wr.alloc (.cells #[.string c.key, .string c.val, .bool true] 51)).cell? ⟨sb, 0, none⟩ = some (.map (some mb)) := mcell_alloc hs0 _
        clear hg hX hB1
        go_upto_region 4 with (fail)
        generalize wr.alloc (.cells #[.string c.key, .string c.val, .bool true] 51) = W1 at *
        have x0 := HX.out.cell 0
        have x1 := HX.out.cell 1
        have x2 := HX.out.cell 2
        clear c0 c1 c2 hs0
        obtain ⟨w1, hrun, hown1, hturn1⟩ := HM1.out.own.drew.drop mkeyed Tryz.underlying81 (mkey hsz.1) 0
        have HO1 := hd (And.intro hown1 hturn1)
        clear hown1 hturn1
        go_region
        all_goals
          go_wp2_with (fail)
          go_roundw
          case rel => exact ⟨k + 1, by omega, by go_num, hd ⟨by rw [HT.out, do_gone HG.out]; exact HM1.out.del HO1.out.1, (HR.out.2.trans (((Chg.of_below HB1.out (fun k => k = mb)).trans (mdrew_chg _ W1) (fun _ q => .inl q)).trans (turned_chg HO1.out.2) (fun _ q => .inl q)) (fun _ q => .inl q))⟩⟩
          case measure => simp [RowKit.intOf]; omega
      | false =>
        rw [hg] at c2
        have HG := hd hg
        have HX := hd (hX false)
        have HM1 := hd (HR.out.1.below (hB1 false))
        have HB1 := hd (hB1 false)
        have hs1 : (wr.alloc (.cells #[.string c.key, .string c.val, .bool false] 51)).cell? ⟨sb, 0, none⟩ = some (.map (some mb)) := mcell_alloc hs0 _
        clear hg hX hB1
        have hroom : (doAll p ((l.take k).map MC.toC)).length < maxLen := by
          have h := len_all ((l.take k).map MC.toC) p
          rw [List.length_map, List.length_take] at h
          unfold maxLen
          omega
        go_upto_region 5 with (fail)
        generalize wr.alloc (.cells #[.string c.key, .string c.val, .bool false] 51) = W1 at *
        have x0 := HX.out.cell 0
        have x1 := HX.out.cell 1
        have x2 := HX.out.cell 2
        clear c0 c1 c2 hs0
        obtain ⟨w1, hrun, hown1, hgrow1⟩ := HM1.out.own.drew.update mkeyed Tryz.underlying81 hroom (mkey hsz.1) (mval hsz.2)
        have HO1 := hd (And.intro hown1 hgrow1)
        clear hown1 hgrow1
        go_region
        all_goals
          go_wp2_with (fail)
          go_roundw
          case rel => exact ⟨k + 1, by omega, by go_num, hd ⟨by rw [HT.out, do_put HG.out]; exact HM1.out.put HO1.out.1, (HR.out.2.trans (((Chg.of_below HB1.out (fun k => k = mb)).trans (mdrew_chg _ W1) (fun _ q => .inl q)).trans (grown_chg HO1.out.2) (fun _ q => .inl q)) (fun _ q => .inl q))⟩⟩
          case measure => simp [RowKit.intOf]; omega
    · obtain rfl : k = l.length := by omega
      go_wp2_with (fail)
      have h := HR.out
      rw [List.take_length] at h
      go_end0
      exact ⟨rfl, h⟩
end Go.Proofs.YtopajmbblemopaaGreatDoor
