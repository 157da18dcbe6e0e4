-- Printed by xprint.py of the repo (the kit's print with given contracts). Not trusted: Lean checks it.
import Derived.Test.YtocfiflcbblakaaXSr0
namespace Go.Proofs.Ytocfiflcbblakaa.XSr
open Go.RowKit Go.Proofs.YtocfiflcbblakaaW.PrintWords Go.Proofs.YtocfiflcbblakaaW.PrintLast Go.Proofs.YtocfiflcbblakaaW.PrintMore
attribute [local go_sem] max2_int min2_int max_two min_two max_three min_three max_four min_four   -- for this text's walks alone
attribute [local go_sem] bytes_gt
set_option linter.unusedVariables false
set_option linter.unusedSimpArgs false

/-! ### furlonglaw02_live: function 12: given -/
def furlonglaw02_live.f : Option (Bool) := some true
theorem furlonglaw02_live.calls (r : Bool) (w : World) (h : furlonglaw02_live.f = some r) :
    Calls Try.prog 12 #[] w fun e w' => e = .returned (.bool r) ∧ Below w.heap.size w w' := by
  obtain rfl := Option.some.inj h
  exact live_any w


/-! ### furlonglaw02_num: function 17: given -/
def furlonglaw02_num.f (a0 : Int) : Option (Int) := some (a0)
theorem furlonglaw02_num.calls (a0 : Int) (r : Int) (w : World) (h : furlonglaw02_num.f a0 = some r) :
    Calls Try.prog 17 #[.int .i64 a0] w fun e w' => e = .returned (.int .i64 r) ∧ Drawn0 w w' := by
  obtain rfl := Option.some.inj h
  refine (num_any a0 w).mono ?_
  rintro e w' ⟨rfl, rfl⟩
  exact ⟨rfl, Drawn0.refl _⟩


/-! ### bound_Level: function 22: given -/
def bound_Level.f (a0 : ByteArray) : Option (Int) := some (levelL a0.toList)
theorem bound_Level.calls (a0 : ByteArray) (r : Int) (w : World) (h : bound_Level.f a0 = some r) :
    Calls Try.prog 22 #[.string a0] w fun e w' => e = .returned (.int .i64 r) ∧ Drawn0 w w' := by
  obtain rfl := Option.some.inj h
  refine (levela_any a0 w).mono ?_
  rintro e w' ⟨rfl, rfl⟩
  exact ⟨rfl, Drawn0.refl _⟩


/-! ### bound_Meta: function 24: given -/
def bound_Meta.f (a0 : Int) (a1 : ByteArray) : Option (ByteArray) := if a1.size ≤ 2000 then some (metaL a0 a1) else none
theorem bound_Meta.calls (a0 : Int) (a1 : ByteArray) (r : ByteArray) (w : World) (h : bound_Meta.f a0 a1 = some r) :
    Calls Try.prog 24 #[.int .i64 a0, .string a1] w fun e w' => e = .returned (.string r) ∧ Below w.heap.size w w' := by
  unfold bound_Meta.f at h
  by_cases hc : a1.size ≤ 2000
  · rw [if_pos hc] at h
    obtain rfl := Option.some.inj h
    exact meta_any a0 a1 hc w
  · rw [if_neg hc] at h
    cases h


/-! ### bound_Search: function 26: given -/
def bound_Search.f (a0 : Int) (a1 : ByteArray) : Option (ByteArray × ByteArray) := if a1.size ≤ 2000 then some (searchF a0 a1, searchT a0) else none
theorem bound_Search.calls (a0 : Int) (a1 : ByteArray) (r1 : ByteArray) (r2 : ByteArray) (w : World) (h : bound_Search.f a0 a1 = some (r1, r2)) :
    Calls Try.prog 26 #[.int .i64 a0, .string a1] w fun e w' => e = .returned (.agg #[.string r1, .string r2]) ∧ Below w.heap.size w w' := by
  unfold bound_Search.f at h
  by_cases hc : a1.size ≤ 2000
  · rw [if_pos hc] at h
    simp only [Option.some.injEq, Prod.mk.injEq] at h
    obtain ⟨rfl, rfl⟩ := h
    exact search_any a0 a1 hc w
  · rw [if_neg hc] at h
    cases h


/-! ### bound_Has: function 28: given -/
def bound_Has.f (a0_0 : ByteArray) (a0_1 : ByteArray) (a1 : ByteArray) : Option (Bool) := some (hasL a0_0.toList a0_1.toList a1.toList)
theorem bound_Has.calls (a0_0 : ByteArray) (a0_1 : ByteArray) (a1 : ByteArray) (r : Bool) (w : World) (h : bound_Has.f a0_0 a0_1 a1 = some r) :
    Calls Try.prog 28 #[.agg #[.string a0_0, .string a0_1], .string a1] w fun e w' => e = .returned (.bool r) ∧ Below w.heap.size w w' := by
  obtain rfl := Option.some.inj h
  exact has_any a0_0 a0_1 a1 w


/-! ### bound_Check: function 29: given -/
def bound_Check.f (a0_0 : ByteArray) (a0_1 : ByteArray) : Option (Int) := some (err20 (okL a0_0.toList a0_1.toList))
theorem bound_Check.calls (a0_0 : ByteArray) (a0_1 : ByteArray) (r : Int) (w : World) (h : bound_Check.f a0_0 a0_1 = some r) :
    Calls Try.prog 29 #[.agg #[.string a0_0, .string a0_1]] w fun e w' => e = .returned (.int .i64 r) ∧ Below w.heap.size w w' := by
  obtain rfl := Option.some.inj h
  exact check_any a0_0 a0_1 w


/-! ### bound_Key: function 30: given -/
def bound_Key.f (a0 : ByteArray) : Option (Int) := some (err20 (keyL a0.toList))
theorem bound_Key.calls (a0 : ByteArray) (r : Int) (w : World) (h : bound_Key.f a0 = some r) :
    Calls Try.prog 30 #[.string a0] w fun e w' => e = .returned (.int .i64 r) ∧ Drawn0 w w' := by
  obtain rfl := Option.some.inj h
  refine (key_any a0 w).mono ?_
  rintro e w' ⟨rfl, rfl⟩
  exact ⟨rfl, Drawn0.refl _⟩


/-! ### furlonglaw02_BoundSearch: function 7 -/
mutual
def furlonglaw02_BoundSearch.j0 : Nat → Int → ByteArray → ByteArray → Bool → Option (Bool)
  | 0, _, _, _, _ => none
  | k + 1, x0, x1, x2, x28 => if x28 = true then ((furlonglaw02_live.f).bind fun t101 => (some t101)) else ((bound_Search.f x0 x1).bind fun bt102 => ((bound_Meta.f x0 x2).bind fun t105 => ((bound_Check.f bt102.1 bt102.2).bind fun t106 => ((furlonglaw02_num.f t106).bind fun t107 => (if t107 = 0 then ((bound_Key.f t105).bind fun t108 => ((furlonglaw02_num.f t108).bind fun t109 => (if t109 = 0 then ((bound_Level.f t105).bind fun t110 => (furlonglaw02_BoundSearch.j1 k x1 x2 t105 (t110 != x0) bt102.1 bt102.2)) else (furlonglaw02_BoundSearch.j1 k x1 x2 t105 true bt102.1 bt102.2)))) else (furlonglaw02_BoundSearch.j1 k x1 x2 t105 true bt102.1 bt102.2))))))
def furlonglaw02_BoundSearch.j1 : Nat → ByteArray → ByteArray → ByteArray → Bool → ByteArray → ByteArray → Option (Bool)
  | 0, _, _, _, _, _, _ => none
  | k + 1, x1, x2, x8, x51, x105000, x105001 => if x51 = true then (some false) else ((bound_Has.f x105000 x105001 x8).bind fun t111 => (if x2.toList = ([] : List UInt8) then (if (t111 == true) = true then ((furlonglaw02_live.f).bind fun t112 => (some t112)) else (some false)) else (if (t111 == (Op.bytesLess x1.toList x2.toList)) = true then ((furlonglaw02_live.f).bind fun t113 => (some t113)) else (some false))))
end
def furlonglaw02_BoundSearch.f (k : Nat) (a0 : Int) (a1 : ByteArray) (a2 : ByteArray) : Option (Bool) := if a0 = 1 then (if (a1.size : Int) > 30 then (furlonglaw02_BoundSearch.j0 k a0 a1 a2 true) else (if (a2.size : Int) > 30 then (furlonglaw02_BoundSearch.j0 k a0 a1 a2 true) else (furlonglaw02_BoundSearch.j0 k a0 a1 a2 (a1.toList == ([] : List UInt8))))) else (if a0 = 2 then (if (a1.size : Int) > 30 then (furlonglaw02_BoundSearch.j0 k a0 a1 a2 true) else (if (a2.size : Int) > 30 then (furlonglaw02_BoundSearch.j0 k a0 a1 a2 true) else (furlonglaw02_BoundSearch.j0 k a0 a1 a2 (a1.toList == ([] : List UInt8))))) else (furlonglaw02_BoundSearch.j0 k a0 a1 a2 true))
theorem furlonglaw02_BoundSearch.mono_l : ∀ k, (∀ y0 y1 y2 y3, LeO (furlonglaw02_BoundSearch.j0 k y0 y1 y2 y3) (furlonglaw02_BoundSearch.j0 (k + 1) y0 y1 y2 y3)) ∧ (∀ y0 y1 y2 y3 y4 y5, LeO (furlonglaw02_BoundSearch.j1 k y0 y1 y2 y3 y4 y5) (furlonglaw02_BoundSearch.j1 (k + 1) y0 y1 y2 y3 y4 y5))
  | 0 => ⟨fun _ _ _ _ r h => by simp [furlonglaw02_BoundSearch.j0] at h, fun _ _ _ _ _ _ r h => by simp [furlonglaw02_BoundSearch.j1] at h⟩
  | k + 1 => by
    obtain ⟨ih0, ih1⟩ := furlonglaw02_BoundSearch.mono_l k
    refine ⟨?_, ?_⟩
    · intro y0 y1 y2 y3
      unfold furlonglaw02_BoundSearch.j0
      repeat' first
      | (with_reducible exact ih0 _ _ _ _)
      | (with_reducible exact ih1 _ _ _ _ _ _)
      | (with_reducible exact LeO.refl _)
      | (with_reducible exact LeO.none _)
      | (with_reducible refine LeO.ite ?_ ?_)
      | (with_reducible refine LeO.bind ?_ (fun _ => ?_))
      | exact ih0 _ _ _ _
      | exact ih1 _ _ _ _ _ _
      | exact LeO.none _
      | refine LeO.ite ?_ ?_
      | refine LeO.bind ?_ (fun _ => ?_)
    · intro y0 y1 y2 y3 y4 y5
      unfold furlonglaw02_BoundSearch.j1
      repeat' first
      | (with_reducible exact ih0 _ _ _ _)
      | (with_reducible exact ih1 _ _ _ _ _ _)
      | (with_reducible exact LeO.refl _)
      | (with_reducible exact LeO.none _)
      | (with_reducible refine LeO.ite ?_ ?_)
      | (with_reducible refine LeO.bind ?_ (fun _ => ?_))
      | exact ih0 _ _ _ _
      | exact ih1 _ _ _ _ _ _
      | exact LeO.none _
      | refine LeO.ite ?_ ?_
      | refine LeO.bind ?_ (fun _ => ?_)
theorem furlonglaw02_BoundSearch.mono : ∀ a0 a1 a2 k, LeO (furlonglaw02_BoundSearch.f k a0 a1 a2) (furlonglaw02_BoundSearch.f (k + 1) a0 a1 a2) := by
  intro a0 a1 a2 k
  obtain ⟨ih0, ih1⟩ := furlonglaw02_BoundSearch.mono_l k
  unfold furlonglaw02_BoundSearch.f
  repeat' first
      | (with_reducible exact ih0 _ _ _ _)
      | (with_reducible exact ih1 _ _ _ _ _ _)
      | (with_reducible exact LeO.refl _)
      | (with_reducible exact LeO.none _)
      | (with_reducible refine LeO.ite ?_ ?_)
      | (with_reducible refine LeO.bind ?_ (fun _ => ?_))
      | exact ih0 _ _ _ _
      | exact ih1 _ _ _ _ _ _
      | exact LeO.none _
      | refine LeO.ite ?_ ?_
      | refine LeO.bind ?_ (fun _ => ?_)
set_option maxHeartbeats 8000000 in
set_option maxRecDepth 100000 in
theorem furlonglaw02_BoundSearch.calls (k : Nat) (a0 : Int) (a1 : ByteArray) (a2 : ByteArray) (r : Bool) (w : World) (h : furlonglaw02_BoundSearch.f k a0 a1 a2 = some r) :
    Calls Try.prog 7 #[.int .i64 a0, .string a1, .string a2] w fun e w' => e = .returned (.bool r) ∧ Below w.heap.size w w' := by
  have hu23 := Try.underlying23
  have HB := Aside0.mk (Below.refl w.heap.size w)
  have H : (if a0 = 1 then (if (a1.size : Int) > 30 then (furlonglaw02_BoundSearch.j0 k a0 a1 a2 true) else (if (a2.size : Int) > 30 then (furlonglaw02_BoundSearch.j0 k a0 a1 a2 true) else (furlonglaw02_BoundSearch.j0 k a0 a1 a2 (a1.toList == ([] : List UInt8))))) else (if a0 = 2 then (if (a1.size : Int) > 30 then (furlonglaw02_BoundSearch.j0 k a0 a1 a2 true) else (if (a2.size : Int) > 30 then (furlonglaw02_BoundSearch.j0 k a0 a1 a2 true) else (furlonglaw02_BoundSearch.j0 k a0 a1 a2 (a1.toList == ([] : List UInt8))))) else (furlonglaw02_BoundSearch.j0 k a0 a1 a2 true))) = some r := h
  clear h
  have HC4 := Aside0.mk H
  clear H
  go_enter Try.func7, Try.ntmps7
  go_upto_region 1 with (fail)
  go_cut [28] (fun v28 wc => ∃ (kq : Nat) (x28_3 : Bool), v28 = .bool x28_3 ∧ Aside0 (furlonglaw02_BoundSearch.j0 kq a0 a1 a2 x28_3 = some r) ∧ Aside0 (kq ≤ k) ∧ Aside0 (Below w.heap.size w wc))
  case first =>
    have H := HC4.out
    clear HC4
    by_cases c5 : a0 = 1
    · rw [if_pos c5] at H
      have c5b0 : (a0 == 1) = true := beq_iff_eq.mpr c5
      have c5b1 : (a0 != 1) = false := bne_eq_false_iff_eq.mpr c5
      clear c5
      (first | rw [c5b0] | (simp only [i64_w, i32_w]; rw [c5b0]) | skip)
      by_cases c6 : (a1.size : Int) > 30
      · rw [if_pos c6] at H
        have c6b0 : decide (30 < (a1.size : Int)) = true := decide_eq_true c6
        have c6b1 : decide (30 < a1.size) = true := decide_eq_true (by omega)
        clear c6
        have H' := Aside0.mk H
        clear H
        go_wp2
        go_meet
        case rel => exact ⟨_, (true), (by first | rfl | (simp; done) | (simp [*]; done)), H', ⟨by first | omega | exact Nat.le_refl _⟩, ⟨by repeat (first | (with_reducible first | exact HB.out | apply below_alloc | apply pw_below_drewN | apply below_drew1) | exact HB.out)⟩⟩
      · rw [if_neg c6] at H
        have c6b0 : decide (30 < (a1.size : Int)) = false := decide_eq_false c6
        have c6b1 : decide (30 < a1.size) = false := decide_eq_false (by omega)
        clear c6
        by_cases c7 : (a2.size : Int) > 30
        · rw [if_pos c7] at H
          have c7b0 : decide (30 < (a2.size : Int)) = true := decide_eq_true c7
          have c7b1 : decide (30 < a2.size) = true := decide_eq_true (by omega)
          clear c7
          have H' := Aside0.mk H
          clear H
          go_wp2
          go_meet
          case rel => exact ⟨_, (true), (by first | rfl | (simp; done) | (simp [*]; done)), H', ⟨by first | omega | exact Nat.le_refl _⟩, ⟨by repeat (first | (with_reducible first | exact HB.out | apply below_alloc | apply pw_below_drewN | apply below_drew1) | exact HB.out)⟩⟩
        · rw [if_neg c7] at H
          have c7b0 : decide (30 < (a2.size : Int)) = false := decide_eq_false c7
          have c7b1 : decide (30 < a2.size) = false := decide_eq_false (by omega)
          clear c7
          have H' := Aside0.mk H
          clear H
          go_wp2
          go_meet
          case rel => exact ⟨_, ((a1.toList == ([] : List UInt8))), (by first | rfl | (simp; done) | (simp [*]; done)), H', ⟨by first | omega | exact Nat.le_refl _⟩, ⟨by repeat (first | (with_reducible first | exact HB.out | apply below_alloc | apply pw_below_drewN | apply below_drew1) | exact HB.out)⟩⟩
    · rw [if_neg c5] at H
      have c5b0 : (a0 == 1) = false := beq_eq_false_iff_ne.mpr c5
      have c5b1 : (a0 != 1) = true := bne_iff_ne.mpr c5
      (first | rw [c5b0] | (simp only [i64_w, i32_w]; rw [c5b0]) | skip)
      by_cases c8 : a0 = 2
      · rw [if_pos c8] at H
        have c8b0 : (a0 == 2) = true := beq_iff_eq.mpr c8
        have c8b1 : (a0 != 2) = false := bne_eq_false_iff_eq.mpr c8
        clear c8
        by_cases c9 : (a1.size : Int) > 30
        · rw [if_pos c9] at H
          have c9b0 : decide (30 < (a1.size : Int)) = true := decide_eq_true c9
          have c9b1 : decide (30 < a1.size) = true := decide_eq_true (by omega)
          clear c9
          have H' := Aside0.mk H
          clear H
          go_wp2
          go_meet
          case rel => exact ⟨_, (true), (by first | rfl | (simp; done) | (simp [*]; done)), H', ⟨by first | omega | exact Nat.le_refl _⟩, ⟨by repeat (first | (with_reducible first | exact HB.out | apply below_alloc | apply pw_below_drewN | apply below_drew1) | exact HB.out)⟩⟩
        · rw [if_neg c9] at H
          have c9b0 : decide (30 < (a1.size : Int)) = false := decide_eq_false c9
          have c9b1 : decide (30 < a1.size) = false := decide_eq_false (by omega)
          clear c9
          by_cases c10 : (a2.size : Int) > 30
          · rw [if_pos c10] at H
            have c10b0 : decide (30 < (a2.size : Int)) = true := decide_eq_true c10
            have c10b1 : decide (30 < a2.size) = true := decide_eq_true (by omega)
            clear c10
            have H' := Aside0.mk H
            clear H
            go_wp2
            go_meet
            case rel => exact ⟨_, (true), (by first | rfl | (simp; done) | (simp [*]; done)), H', ⟨by first | omega | exact Nat.le_refl _⟩, ⟨by repeat (first | (with_reducible first | exact HB.out | apply below_alloc | apply pw_below_drewN | apply below_drew1) | exact HB.out)⟩⟩
          · rw [if_neg c10] at H
            have c10b0 : decide (30 < (a2.size : Int)) = false := decide_eq_false c10
            have c10b1 : decide (30 < a2.size) = false := decide_eq_false (by omega)
            clear c10
            have H' := Aside0.mk H
            clear H
            go_wp2
            go_meet
            case rel => exact ⟨_, ((a1.toList == ([] : List UInt8))), (by first | rfl | (simp; done) | (simp [*]; done)), H', ⟨by first | omega | exact Nat.le_refl _⟩, ⟨by repeat (first | (with_reducible first | exact HB.out | apply below_alloc | apply pw_below_drewN | apply below_drew1) | exact HB.out)⟩⟩
      · rw [if_neg c8] at H
        have c8b0 : (a0 == 2) = false := beq_eq_false_iff_ne.mpr c8
        have c8b1 : (a0 != 2) = true := bne_iff_ne.mpr c8
        have H' := Aside0.mk H
        clear H
        go_wp2
        go_meet
        case rel => exact ⟨_, (true), (by first | rfl | (simp; done) | (simp [*]; done)), H', ⟨by first | omega | exact Nat.le_refl _⟩, ⟨by repeat (first | (with_reducible first | exact HB.out | apply below_alloc | apply pw_below_drewN | apply below_drew1) | exact HB.out)⟩⟩
  case rest =>
    clear HC4
    try clear c1
    try clear p2
    try clear c5
    try clear c5b0
    try clear c5b1
    try clear c6
    try clear c6b0
    try clear c6b1
    try clear c7
    try clear c7b0
    try clear c7b1
    try clear c8
    try clear c8b0
    try clear c8b1
    try clear c9
    try clear c9b0
    try clear c9b1
    try clear c10
    try clear c10b0
    try clear c10b1
    obtain ⟨kq, x28_3, rfl, HA, HJ3, HB⟩ := hcut
    cases kq with
    | zero => exact absurd HA.out (by simp [furlonglaw02_BoundSearch.j0])
    | succ kj3 =>
      have H := HA.out
      clear HA
      simp only [furlonglaw02_BoundSearch.j0] at H
      by_cases c11 : x28_3 = true
      · subst c11
        have H1 : ((furlonglaw02_live.f).bind fun t101 => (some t101)) = some r := by rw [if_pos rfl] at H; exact H
        clear H
        have H := H1
        clear H1
        replace H := Option.bind_eq_some_iff.mp H
        obtain ⟨t101, A120, H⟩ := H
        replace H : (some t101) = some r := H
        have A12 := Aside0.mk A120
        clear A120
        obtain rfl := Option.some.inj H
        go_wp2_with (first | ((with_reducible refine gate_callee (f := 12) rfl ?_); refine goesL_ (some 29) rfl rfl Try.func12 (by kernel_rfl) rfl #[] rfl (by (try simp only [List.map_toArray, List.map_cons, List.map_nil]); first | done | rfl | (simp only [List.length_drop, List.length_take]; rfl)) ?_; (with_reducible refine (furlonglaw02_live.calls  t101 _ A12.out).mono ?_); rintro e w13 ⟨rfl, hb⟩; refine ⟨_, rfl, ?_⟩; have n0_ := Aside0.mk (below_step (by repeat (first | (with_reducible first | exact HB.out | apply below_alloc | apply pw_below_drewN | apply below_drew1) | exact HB.out)) hb); clear HB; have HB := n0_; clear n0_; (try clear hb); (try clear hb2); (try clear hk); (try clear hi)))
        go_ret
        exact ⟨by first | rfl | (simp [errW_none, errW_some] <;> rfl) | (simp [*, errW_none, errW_some] <;> rfl), by repeat (first | (with_reducible first | exact HB.out | apply below_alloc | apply pw_below_drewN | apply below_drew1) | exact HB.out)⟩
      · replace c11 := Bool.eq_false_iff.mpr c11
        subst c11
        have H1 : ((bound_Search.f a0 a1).bind fun bt102 => ((bound_Meta.f a0 a2).bind fun t105 => ((bound_Check.f bt102.1 bt102.2).bind fun t106 => ((furlonglaw02_num.f t106).bind fun t107 => (if t107 = 0 then ((bound_Key.f t105).bind fun t108 => ((furlonglaw02_num.f t108).bind fun t109 => (if t109 = 0 then ((bound_Level.f t105).bind fun t110 => (furlonglaw02_BoundSearch.j1 kj3 a1 a2 t105 (t110 != a0) bt102.1 bt102.2)) else (furlonglaw02_BoundSearch.j1 kj3 a1 a2 t105 true bt102.1 bt102.2)))) else (furlonglaw02_BoundSearch.j1 kj3 a1 a2 t105 true bt102.1 bt102.2)))))) = some r := by rw [if_neg (show ¬ (false = true) by decide)] at H; exact H
        clear H
        have H := H1
        clear H1
        replace H := Option.bind_eq_some_iff.mp H
        obtain ⟨⟨t102, t103⟩, A140, H⟩ := H
        replace H : ((bound_Meta.f a0 a2).bind fun t105 => ((bound_Check.f t102 t103).bind fun t106 => ((furlonglaw02_num.f t106).bind fun t107 => (if t107 = 0 then ((bound_Key.f t105).bind fun t108 => ((furlonglaw02_num.f t108).bind fun t109 => (if t109 = 0 then ((bound_Level.f t105).bind fun t110 => (furlonglaw02_BoundSearch.j1 kj3 a1 a2 t105 (t110 != a0) t102 t103)) else (furlonglaw02_BoundSearch.j1 kj3 a1 a2 t105 true t102 t103)))) else (furlonglaw02_BoundSearch.j1 kj3 a1 a2 t105 true t102 t103))))) = some r := H
        have A14 := Aside0.mk A140
        clear A140
        replace H := Option.bind_eq_some_iff.mp H
        obtain ⟨t105, A150, H⟩ := H
        replace H : ((bound_Check.f t102 t103).bind fun t106 => ((furlonglaw02_num.f t106).bind fun t107 => (if t107 = 0 then ((bound_Key.f t105).bind fun t108 => ((furlonglaw02_num.f t108).bind fun t109 => (if t109 = 0 then ((bound_Level.f t105).bind fun t110 => (furlonglaw02_BoundSearch.j1 kj3 a1 a2 t105 (t110 != a0) t102 t103)) else (furlonglaw02_BoundSearch.j1 kj3 a1 a2 t105 true t102 t103)))) else (furlonglaw02_BoundSearch.j1 kj3 a1 a2 t105 true t102 t103)))) = some r := H
        have A15 := Aside0.mk A150
        clear A150
        have HC16 := Aside0.mk H
        clear H
        go_upto_region 5 with (first | ((with_reducible refine gate_callee (f := 26) rfl ?_); refine goesL_ (some 32) rfl rfl Try.func26 (by kernel_rfl) rfl #[.int .i64 a0, .string a1] rfl (by (try simp only [List.map_toArray, List.map_cons, List.map_nil]); first | done | rfl | (simp only [List.length_drop, List.length_take]; rfl)) ?_; (with_reducible refine (bound_Search.calls a0 a1 t102 t103 _ A14.out).mono ?_); rintro e w17 ⟨rfl, hb⟩; refine ⟨_, rfl, ?_⟩; have n0_ := Aside0.mk (below_step (by repeat (first | (with_reducible first | exact HB.out | apply below_alloc | apply pw_below_drewN | apply below_drew1) | exact HB.out)) hb); clear HB; have HB := n0_; clear n0_; (try clear hb); (try clear hb2); (try clear hk); (try clear hi)) | ((with_reducible refine gate_dst (N := 7) rfl ?_); (try (refine gate_guard (by rfl) ?_; dsimp only)); refine box_event ?hg (N := 7) ?hd (cs := #[.string (⟨#[]⟩ : ByteArray), .string (⟨#[]⟩ : ByteArray)]) (t := 23) ?hr ?_; (case hd => rfl); (case hg => rfl); (case hr => first | (go_simp; done) | (go_simp; rfl)); intro gb104 hg w18 hbox hb; have n0_ := Aside0.mk (below_step (by repeat (first | (with_reducible first | exact HB.out | apply below_alloc | apply pw_below_drewN | apply below_drew1) | exact HB.out)) hb); have n1_ := Aside0.mk (hbox); have n2_ := Aside0.mk ((by rw [hg]; exact (below_size (by repeat (first | (with_reducible first | exact HB.out | apply below_alloc | apply pw_below_drewN | apply below_drew1) | exact HB.out))) : w.heap.size ≤ gb104)); have n3_ := Aside0.mk ((by rw [hg]; exact (below_size (by repeat (first | (with_reducible first | exact HB.out | apply below_alloc | apply pw_below_drewN | apply below_drew1) | exact HB.out))) : w.heap.size ≤ gb104)); clear HB; have HB := n0_; have BK104 := n1_; have GW104 := n2_; have GE104 := n3_; clear n0_ n1_ n2_ n3_; clear hb hbox hg; have hcz19_0 : w18.cell? ⟨gb104, 0, none⟩ = some (.string (⟨#[]⟩ : ByteArray)) := (blk_cell BK104.out 0).trans rfl; have hcz19_1 : w18.cell? ⟨gb104, 1, none⟩ = some (.string (⟨#[]⟩ : ByteArray)) := (blk_cell BK104.out 1).trans rfl; have hfz19_0 := blk_frozen BK104.out 0; have hfz19_1 := blk_frozen BK104.out 1) | ((with_reducible refine gate_callee (f := 24) rfl ?_); refine goesL_ (some 35) rfl rfl Try.func24 (by kernel_rfl) rfl #[.int .i64 a0, .string a2] rfl (by (try simp only [List.map_toArray, List.map_cons, List.map_nil]); first | done | rfl | (simp only [List.length_drop, List.length_take]; rfl)) ?_; (with_reducible refine (bound_Meta.calls a0 a2 t105 _ A15.out).mono ?_); rintro e w20 ⟨rfl, hb⟩; refine ⟨_, rfl, ?_⟩; have n0_ := Aside0.mk (blk_below (g := gb104) (o := .cells #[.string t102, .string t103] 23 (0, 0)) (by (with_reducible repeat (first | refine blk_drewN ?_ _ | refine blk_drew ?_ | refine blk_alloc ?_ _)); refine blk_put (cs := #[.string t102, .string (⟨#[]⟩ : ByteArray)]) ?_ 1 _ rfl; (with_reducible repeat (first | refine blk_drewN ?_ _ | refine blk_drew ?_ | refine blk_alloc ?_ _)); refine blk_put (cs := #[.string (⟨#[]⟩ : ByteArray), .string (⟨#[]⟩ : ByteArray)]) ?_ 0 _ rfl; (with_reducible repeat (first | refine blk_drewN ?_ _ | refine blk_drew ?_ | refine blk_alloc ?_ _)); exact BK104.out) hb); have n1_ := Aside0.mk (below_step (by repeat (first | (with_reducible first | exact HB.out | apply below_alloc | apply pw_below_drewN | apply below_drew1 | refine below_set ?_ GE104.out) | exact HB.out)) hb); clear BK104; clear HB; have BK104 := n0_; have HB := n1_; clear n0_ n1_; (try clear hb); (try clear hb2); (try clear hk); (try clear hi)))
        (try simp only [Act.put, List.setIfInBounds_toArray, List.set_cons_zero, List.set_cons_succ])
        go_cut [51] (fun v51 wc => ∃ (kq : Nat) (x51_15 : Bool), v51 = .bool x51_15 ∧ Aside0 (furlonglaw02_BoundSearch.j1 kq a1 a2 t105 x51_15 t102 t103 = some r) ∧ Aside0 (kq ≤ kj3) ∧ Aside0 (wc.heap[gb104]? = some (.cells #[.string t102, .string t103] 23 (0, 0))) ∧ Aside0 (Below w.heap.size w wc))
        case first =>
          have H := HC16.out
          clear HC16
          replace H := Option.bind_eq_some_iff.mp H
          obtain ⟨t106, A210, H⟩ := H
          replace H : ((furlonglaw02_num.f t106).bind fun t107 => (if t107 = 0 then ((bound_Key.f t105).bind fun t108 => ((furlonglaw02_num.f t108).bind fun t109 => (if t109 = 0 then ((bound_Level.f t105).bind fun t110 => (furlonglaw02_BoundSearch.j1 kj3 a1 a2 t105 (t110 != a0) t102 t103)) else (furlonglaw02_BoundSearch.j1 kj3 a1 a2 t105 true t102 t103)))) else (furlonglaw02_BoundSearch.j1 kj3 a1 a2 t105 true t102 t103))) = some r := H
          have A21 := Aside0.mk A210
          clear A210
          replace H := Option.bind_eq_some_iff.mp H
          obtain ⟨t107, A220, H⟩ := H
          replace H : (if t107 = 0 then ((bound_Key.f t105).bind fun t108 => ((furlonglaw02_num.f t108).bind fun t109 => (if t109 = 0 then ((bound_Level.f t105).bind fun t110 => (furlonglaw02_BoundSearch.j1 kj3 a1 a2 t105 (t110 != a0) t102 t103)) else (furlonglaw02_BoundSearch.j1 kj3 a1 a2 t105 true t102 t103)))) else (furlonglaw02_BoundSearch.j1 kj3 a1 a2 t105 true t102 t103)) = some r := H
          have A22 := Aside0.mk A220
          clear A220
          by_cases c23 : t107 = 0
          · rw [if_pos c23] at H
            have c23b0 : (t107 == 0) = true := beq_iff_eq.mpr c23
            have c23b1 : (t107 != 0) = false := bne_eq_false_iff_eq.mpr c23
            clear c23
            (first | rw [c23b0] | (simp only [i64_w, i32_w]; rw [c23b0]) | skip)
            replace H := Option.bind_eq_some_iff.mp H
            obtain ⟨t108, A240, H⟩ := H
            replace H : ((furlonglaw02_num.f t108).bind fun t109 => (if t109 = 0 then ((bound_Level.f t105).bind fun t110 => (furlonglaw02_BoundSearch.j1 kj3 a1 a2 t105 (t110 != a0) t102 t103)) else (furlonglaw02_BoundSearch.j1 kj3 a1 a2 t105 true t102 t103))) = some r := H
            have A24 := Aside0.mk A240
            clear A240
            replace H := Option.bind_eq_some_iff.mp H
            obtain ⟨t109, A250, H⟩ := H
            replace H : (if t109 = 0 then ((bound_Level.f t105).bind fun t110 => (furlonglaw02_BoundSearch.j1 kj3 a1 a2 t105 (t110 != a0) t102 t103)) else (furlonglaw02_BoundSearch.j1 kj3 a1 a2 t105 true t102 t103)) = some r := H
            have A25 := Aside0.mk A250
            clear A250
            by_cases c26 : t109 = 0
            · rw [if_pos c26] at H
              have c26b0 : (t109 == 0) = true := beq_iff_eq.mpr c26
              have c26b1 : (t109 != 0) = false := bne_eq_false_iff_eq.mpr c26
              clear c26
              replace H := Option.bind_eq_some_iff.mp H
              obtain ⟨t110, A270, H⟩ := H
              replace H : (furlonglaw02_BoundSearch.j1 kj3 a1 a2 t105 (t110 != a0) t102 t103) = some r := H
              have A27 := Aside0.mk A270
              clear A270
              have H' := Aside0.mk H
              clear H
              have hcz28_0 : w20.cell? ⟨gb104, 0, none⟩ = some (.string t102) := (blk_cell BK104.out 0).trans rfl
              have hcz28_1 : w20.cell? ⟨gb104, 1, none⟩ = some (.string t103) := (blk_cell BK104.out 1).trans rfl
              have hfz28_0 := blk_frozen BK104.out 0
              have hfz28_1 := blk_frozen BK104.out 1
              go_wp2_with (first | ((with_reducible refine gate_callee (f := 29) rfl ?_); refine goesL_ (some 37) rfl rfl Try.func29 (by kernel_rfl) rfl #[.agg #[.string t102, .string t103]] rfl (by (try simp only [List.map_toArray, List.map_cons, List.map_nil]); first | done | rfl | (simp only [List.length_drop, List.length_take]; rfl)) ?_; (with_reducible refine (bound_Check.calls t102 t103 t106 _ A21.out).mono ?_); rintro e w29 ⟨rfl, hb⟩; refine ⟨_, rfl, ?_⟩; have n0_ := Aside0.mk (blk_below (g := gb104) (o := .cells #[.string t102, .string t103] 23 (0, 0)) (by (with_reducible repeat (first | refine blk_drewN ?_ _ | refine blk_drew ?_ | refine blk_alloc ?_ _)); exact BK104.out) hb); have n1_ := Aside0.mk (below_step (by repeat (first | (with_reducible first | exact HB.out | apply below_alloc | apply pw_below_drewN | apply below_drew1 | refine below_set ?_ GE104.out) | exact HB.out)) hb); clear BK104; clear HB; have BK104 := n0_; have HB := n1_; clear n0_ n1_; (try clear hb); (try clear hb2); (try clear hk); (try clear hi)) | ((with_reducible refine gate_callee (f := 17) rfl ?_); refine goesL_ (some 38) rfl rfl Try.func17 (by kernel_rfl) rfl #[.int .i64 t106] rfl (by (try simp only [List.map_toArray, List.map_cons, List.map_nil]); first | done | rfl | (simp only [List.length_drop, List.length_take]; rfl)) ?_; (with_reducible refine (furlonglaw02_num.calls t106 t107 _ A22.out).mono ?_); rintro e w' ⟨rfl, ⟨nd, rfl⟩⟩; refine ⟨_, rfl, ?_⟩) | (go_at_call 30; (with_reducible refine (bound_Key.calls t105 t108 _ A24.out).mono ?_); rintro e w' ⟨rfl, ⟨nd, rfl⟩⟩) | (go_at_call 17; (with_reducible refine (furlonglaw02_num.calls t108 t109 _ A25.out).mono ?_); rintro e w' ⟨rfl, ⟨nd, rfl⟩⟩) | (go_at_call 22; (with_reducible refine (bound_Level.calls t105 t110 _ A27.out).mono ?_); rintro e w' ⟨rfl, ⟨nd, rfl⟩⟩))
              go_meet
              case rel => exact ⟨_, ((t110 != a0)), (by first | rfl | (simp; done) | (simp [*]; done)), H', ⟨by have := HJ3.out; first | omega | exact Nat.le_refl _⟩, ⟨by (with_reducible repeat (first | refine blk_drewN ?_ _ | refine blk_drew ?_ | refine blk_alloc ?_ _)); exact BK104.out⟩, ⟨by repeat (first | (with_reducible first | exact HB.out | apply below_alloc | apply pw_below_drewN | apply below_drew1 | refine below_set ?_ GE104.out) | exact HB.out)⟩⟩
            · rw [if_neg c26] at H
              have c26b0 : (t109 == 0) = false := beq_eq_false_iff_ne.mpr c26
              have c26b1 : (t109 != 0) = true := bne_iff_ne.mpr c26
              have H' := Aside0.mk H
              clear H
              have hcz30_0 : w20.cell? ⟨gb104, 0, none⟩ = some (.string t102) := (blk_cell BK104.out 0).trans rfl
              have hcz30_1 : w20.cell? ⟨gb104, 1, none⟩ = some (.string t103) := (blk_cell BK104.out 1).trans rfl
              have hfz30_0 := blk_frozen BK104.out 0
              have hfz30_1 := blk_frozen BK104.out 1
              go_wp2_with (first | ((with_reducible refine gate_callee (f := 29) rfl ?_); refine goesL_ (some 37) rfl rfl Try.func29 (by kernel_rfl) rfl #[.agg #[.string t102, .string t103]] rfl (by (try simp only [List.map_toArray, List.map_cons, List.map_nil]); first | done | rfl | (simp only [List.length_drop, List.length_take]; rfl)) ?_; (with_reducible refine (bound_Check.calls t102 t103 t106 _ A21.out).mono ?_); rintro e w31 ⟨rfl, hb⟩; refine ⟨_, rfl, ?_⟩; have n0_ := Aside0.mk (blk_below (g := gb104) (o := .cells #[.string t102, .string t103] 23 (0, 0)) (by (with_reducible repeat (first | refine blk_drewN ?_ _ | refine blk_drew ?_ | refine blk_alloc ?_ _)); exact BK104.out) hb); have n1_ := Aside0.mk (below_step (by repeat (first | (with_reducible first | exact HB.out | apply below_alloc | apply pw_below_drewN | apply below_drew1 | refine below_set ?_ GE104.out) | exact HB.out)) hb); clear BK104; clear HB; have BK104 := n0_; have HB := n1_; clear n0_ n1_; (try clear hb); (try clear hb2); (try clear hk); (try clear hi)) | ((with_reducible refine gate_callee (f := 17) rfl ?_); refine goesL_ (some 38) rfl rfl Try.func17 (by kernel_rfl) rfl #[.int .i64 t106] rfl (by (try simp only [List.map_toArray, List.map_cons, List.map_nil]); first | done | rfl | (simp only [List.length_drop, List.length_take]; rfl)) ?_; (with_reducible refine (furlonglaw02_num.calls t106 t107 _ A22.out).mono ?_); rintro e w' ⟨rfl, ⟨nd, rfl⟩⟩; refine ⟨_, rfl, ?_⟩) | (go_at_call 30; (with_reducible refine (bound_Key.calls t105 t108 _ A24.out).mono ?_); rintro e w' ⟨rfl, ⟨nd, rfl⟩⟩) | (go_at_call 17; (with_reducible refine (furlonglaw02_num.calls t108 t109 _ A25.out).mono ?_); rintro e w' ⟨rfl, ⟨nd, rfl⟩⟩))
              go_meet
              case rel => exact ⟨_, (true), (by first | rfl | (simp; done) | (simp [*]; done)), H', ⟨by have := HJ3.out; first | omega | exact Nat.le_refl _⟩, ⟨by (with_reducible repeat (first | refine blk_drewN ?_ _ | refine blk_drew ?_ | refine blk_alloc ?_ _)); exact BK104.out⟩, ⟨by repeat (first | (with_reducible first | exact HB.out | apply below_alloc | apply pw_below_drewN | apply below_drew1 | refine below_set ?_ GE104.out) | exact HB.out)⟩⟩
          · rw [if_neg c23] at H
            have c23b0 : (t107 == 0) = false := beq_eq_false_iff_ne.mpr c23
            have c23b1 : (t107 != 0) = true := bne_iff_ne.mpr c23
            (first | rw [c23b0] | (simp only [i64_w, i32_w]; rw [c23b0]) | skip)
            have H' := Aside0.mk H
            clear H
            have hcz32_0 : w20.cell? ⟨gb104, 0, none⟩ = some (.string t102) := (blk_cell BK104.out 0).trans rfl
            have hcz32_1 : w20.cell? ⟨gb104, 1, none⟩ = some (.string t103) := (blk_cell BK104.out 1).trans rfl
            have hfz32_0 := blk_frozen BK104.out 0
            have hfz32_1 := blk_frozen BK104.out 1
            go_wp2_with (first | ((with_reducible refine gate_callee (f := 29) rfl ?_); refine goesL_ (some 37) rfl rfl Try.func29 (by kernel_rfl) rfl #[.agg #[.string t102, .string t103]] rfl (by (try simp only [List.map_toArray, List.map_cons, List.map_nil]); first | done | rfl | (simp only [List.length_drop, List.length_take]; rfl)) ?_; (with_reducible refine (bound_Check.calls t102 t103 t106 _ A21.out).mono ?_); rintro e w33 ⟨rfl, hb⟩; refine ⟨_, rfl, ?_⟩; have n0_ := Aside0.mk (blk_below (g := gb104) (o := .cells #[.string t102, .string t103] 23 (0, 0)) (by (with_reducible repeat (first | refine blk_drewN ?_ _ | refine blk_drew ?_ | refine blk_alloc ?_ _)); exact BK104.out) hb); have n1_ := Aside0.mk (below_step (by repeat (first | (with_reducible first | exact HB.out | apply below_alloc | apply pw_below_drewN | apply below_drew1 | refine below_set ?_ GE104.out) | exact HB.out)) hb); clear BK104; clear HB; have BK104 := n0_; have HB := n1_; clear n0_ n1_; (try clear hb); (try clear hb2); (try clear hk); (try clear hi)) | ((with_reducible refine gate_callee (f := 17) rfl ?_); refine goesL_ (some 38) rfl rfl Try.func17 (by kernel_rfl) rfl #[.int .i64 t106] rfl (by (try simp only [List.map_toArray, List.map_cons, List.map_nil]); first | done | rfl | (simp only [List.length_drop, List.length_take]; rfl)) ?_; (with_reducible refine (furlonglaw02_num.calls t106 t107 _ A22.out).mono ?_); rintro e w' ⟨rfl, ⟨nd, rfl⟩⟩; refine ⟨_, rfl, ?_⟩))
            go_meet
            case rel => exact ⟨_, (true), (by first | rfl | (simp; done) | (simp [*]; done)), H', ⟨by have := HJ3.out; first | omega | exact Nat.le_refl _⟩, ⟨by (with_reducible repeat (first | refine blk_drewN ?_ _ | refine blk_drew ?_ | refine blk_alloc ?_ _)); exact BK104.out⟩, ⟨by repeat (first | (with_reducible first | exact HB.out | apply below_alloc | apply pw_below_drewN | apply below_drew1 | refine below_set ?_ GE104.out) | exact HB.out)⟩⟩
        case rest =>
          clear HC16
          try clear c1
          try clear c2
          try clear p2
          try clear c5
          try clear c5b0
          try clear c5b1
          try clear c6
          try clear c6b0
          try clear c6b1
          try clear c7
          try clear c7b0
          try clear c7b1
          try clear c8
          try clear c8b0
          try clear c8b1
          try clear c9
          try clear c9b0
          try clear c9b1
          try clear c10
          try clear c10b0
          try clear c10b1
          try clear c11
          try clear c12
          try clear c17
          try clear c23
          try clear c23b0
          try clear c23b1
          try clear c24
          try clear c26
          try clear c26b0
          try clear c26b1
          try clear c29
          try clear hcz19_0
          try clear hcz19_1
          try clear hcz28_0
          try clear hcz28_1
          try clear hcz30_0
          try clear hcz30_1
          try clear hcz32_0
          try clear hcz32_1
          try clear hfz19_0
          try clear hfz19_1
          try clear hfz28_0
          try clear hfz28_1
          try clear hfz30_0
          try clear hfz30_1
          try clear hfz32_0
          try clear hfz32_1
          try clear p2
          obtain ⟨kq, x51_15, rfl, HA, HJ15, BK104, HB⟩ := hcut
          cases kq with
          | zero => exact absurd HA.out (by simp [furlonglaw02_BoundSearch.j1])
          | succ kj15 =>
            have H := HA.out
            clear HA
            simp only [furlonglaw02_BoundSearch.j1] at H
            by_cases c34 : x51_15 = true
            · subst c34
              have H1 : (some false) = some r := by rw [if_pos rfl] at H; exact H
              clear H
              have H := H1
              clear H1
              obtain rfl := Option.some.inj H
              go_wp2
              go_ret
              exact ⟨by first | rfl | (simp [errW_none, errW_some] <;> rfl) | (simp [*, errW_none, errW_some] <;> rfl), by repeat (first | (with_reducible first | exact HB.out | apply below_alloc | apply pw_below_drewN | apply below_drew1 | refine below_set ?_ GE104.out) | exact HB.out)⟩
            · replace c34 := Bool.eq_false_iff.mpr c34
              subst c34
              have H1 : ((bound_Has.f t102 t103 t105).bind fun t111 => (if a2.toList = ([] : List UInt8) then (if (t111 == true) = true then ((furlonglaw02_live.f).bind fun t112 => (some t112)) else (some false)) else (if (t111 == (Op.bytesLess a1.toList a2.toList)) = true then ((furlonglaw02_live.f).bind fun t113 => (some t113)) else (some false)))) = some r := by rw [if_neg (show ¬ (false = true) by decide)] at H; exact H
              clear H
              have H := H1
              clear H1
              replace H := Option.bind_eq_some_iff.mp H
              obtain ⟨t111, A350, H⟩ := H
              replace H : (if a2.toList = ([] : List UInt8) then (if (t111 == true) = true then ((furlonglaw02_live.f).bind fun t112 => (some t112)) else (some false)) else (if (t111 == (Op.bytesLess a1.toList a2.toList)) = true then ((furlonglaw02_live.f).bind fun t113 => (some t113)) else (some false))) = some r := H
              have A35 := Aside0.mk A350
              clear A350
              by_cases c36 : a2.toList = ([] : List UInt8)
              · rw [if_pos c36] at H
                have c36b0 : (a2.toList == ([] : List UInt8)) = true := beq_iff_eq.mpr c36
                have c36b1 : (a2.toList != ([] : List UInt8)) = false := bne_eq_false_iff_eq.mpr c36
                clear c36
                by_cases c37 : (t111 == true) = true
                · rw [if_pos c37] at H
                  have c37b0 : (t111 == true) = true := c37
                  (try (have c37b1 : decide (t111 = true) = true := by simpa using c37))
                  (try (have c37b2 : (t111 == true) = true := by simpa using c37))
                  clear c37
                  replace H := Option.bind_eq_some_iff.mp H
                  obtain ⟨t112, A380, H⟩ := H
                  replace H : (some t112) = some r := H
                  have A38 := Aside0.mk A380
                  clear A380
                  obtain rfl := Option.some.inj H
                  have hcz39_0 : wc.cell? ⟨gb104, 0, none⟩ = some (.string t102) := (blk_cell BK104.out 0).trans rfl
                  have hcz39_1 : wc.cell? ⟨gb104, 1, none⟩ = some (.string t103) := (blk_cell BK104.out 1).trans rfl
                  have hfz39_0 := blk_frozen BK104.out 0
                  have hfz39_1 := blk_frozen BK104.out 1
                  go_wp2_with (first | ((with_reducible refine gate_callee (f := 28) rfl ?_); refine goesL_ (some 54) rfl rfl Try.func28 (by kernel_rfl) rfl #[.agg #[.string t102, .string t103], .string t105] rfl (by (try simp only [List.map_toArray, List.map_cons, List.map_nil]); first | done | rfl | (simp only [List.length_drop, List.length_take]; rfl)) ?_; (with_reducible refine (bound_Has.calls t102 t103 t105 t111 _ A35.out).mono ?_); rintro e w40 ⟨rfl, hb⟩; refine ⟨_, rfl, ?_⟩; have n0_ := Aside0.mk (blk_below (g := gb104) (o := .cells #[.string t102, .string t103] 23 (0, 0)) (by (with_reducible repeat (first | refine blk_drewN ?_ _ | refine blk_drew ?_ | refine blk_alloc ?_ _)); exact BK104.out) hb); have n1_ := Aside0.mk (below_step (by repeat (first | (with_reducible first | exact HB.out | apply below_alloc | apply pw_below_drewN | apply below_drew1 | refine below_set ?_ GE104.out) | exact HB.out)) hb); clear BK104; clear HB; have BK104 := n0_; have HB := n1_; clear n0_ n1_; (try clear hb); (try clear hb2); (try clear hk); (try clear hi)) | (go_at_call 12; (with_reducible refine (furlonglaw02_live.calls  t112 _ A38.out).mono ?_); rintro e w41 ⟨rfl, hb⟩; have n0_ := Aside0.mk (blk_below (g := gb104) (o := .cells #[.string t102, .string t103] 23 (0, 0)) (by (with_reducible repeat (first | refine blk_drewN ?_ _ | refine blk_drew ?_ | refine blk_alloc ?_ _)); exact BK104.out) hb); have n1_ := Aside0.mk (below_step (by repeat (first | (with_reducible first | exact HB.out | apply below_alloc | apply pw_below_drewN | apply below_drew1 | refine below_set ?_ GE104.out) | exact HB.out)) hb); clear BK104; clear HB; have BK104 := n0_; have HB := n1_; clear n0_ n1_; (try clear hb); (try clear hb2); (try clear hk); (try clear hi)))
                  go_ret
                  exact ⟨by first | rfl | (simp [errW_none, errW_some] <;> rfl) | (simp [*, errW_none, errW_some] <;> rfl), by repeat (first | (with_reducible first | exact HB.out | apply below_alloc | apply pw_below_drewN | apply below_drew1 | refine below_set ?_ GE104.out) | exact HB.out)⟩
                · rw [if_neg c37] at H
                  have c37b0 : (t111 == true) = false := by simpa using c37
                  (try (have c37b1 : decide (t111 = true) = false := by simpa using c37))
                  (try (have c37b2 : (t111 == true) = false := by simpa using c37))
                  (try (have c37b3 : ¬ (t111 = true) := by simpa using c37))
                  clear c37
                  obtain rfl := Option.some.inj H
                  have hcz42_0 : wc.cell? ⟨gb104, 0, none⟩ = some (.string t102) := (blk_cell BK104.out 0).trans rfl
                  have hcz42_1 : wc.cell? ⟨gb104, 1, none⟩ = some (.string t103) := (blk_cell BK104.out 1).trans rfl
                  have hfz42_0 := blk_frozen BK104.out 0
                  have hfz42_1 := blk_frozen BK104.out 1
                  go_wp2_with (first | ((with_reducible refine gate_callee (f := 28) rfl ?_); refine goesL_ (some 54) rfl rfl Try.func28 (by kernel_rfl) rfl #[.agg #[.string t102, .string t103], .string t105] rfl (by (try simp only [List.map_toArray, List.map_cons, List.map_nil]); first | done | rfl | (simp only [List.length_drop, List.length_take]; rfl)) ?_; (with_reducible refine (bound_Has.calls t102 t103 t105 t111 _ A35.out).mono ?_); rintro e w43 ⟨rfl, hb⟩; refine ⟨_, rfl, ?_⟩; have n0_ := Aside0.mk (blk_below (g := gb104) (o := .cells #[.string t102, .string t103] 23 (0, 0)) (by (with_reducible repeat (first | refine blk_drewN ?_ _ | refine blk_drew ?_ | refine blk_alloc ?_ _)); exact BK104.out) hb); have n1_ := Aside0.mk (below_step (by repeat (first | (with_reducible first | exact HB.out | apply below_alloc | apply pw_below_drewN | apply below_drew1 | refine below_set ?_ GE104.out) | exact HB.out)) hb); clear BK104; clear HB; have BK104 := n0_; have HB := n1_; clear n0_ n1_; (try clear hb); (try clear hb2); (try clear hk); (try clear hi)))
                  go_ret
                  exact ⟨by first | rfl | (simp [errW_none, errW_some] <;> rfl) | (simp [*, errW_none, errW_some] <;> rfl), by repeat (first | (with_reducible first | exact HB.out | apply below_alloc | apply pw_below_drewN | apply below_drew1 | refine below_set ?_ GE104.out) | exact HB.out)⟩
              · rw [if_neg c36] at H
                have c36b0 : (a2.toList == ([] : List UInt8)) = false := beq_eq_false_iff_ne.mpr c36
                have c36b1 : (a2.toList != ([] : List UInt8)) = true := bne_iff_ne.mpr c36
                by_cases c44 : (t111 == (Op.bytesLess a1.toList a2.toList)) = true
                · rw [if_pos c44] at H
                  have c44b0 : (t111 == (Op.bytesLess a1.toList a2.toList)) = true := c44
                  (try (have c44b1 : decide (t111 = (Op.bytesLess a1.toList a2.toList)) = true := by simpa using c44))
                  (try (have c44b2 : (t111 == (Op.bytesLess a1.toList a2.toList)) = true := by simpa using c44))
                  clear c44
                  replace H := Option.bind_eq_some_iff.mp H
                  obtain ⟨t113, A450, H⟩ := H
                  replace H : (some t113) = some r := H
                  have A45 := Aside0.mk A450
                  clear A450
                  obtain rfl := Option.some.inj H
                  have hcz46_0 : wc.cell? ⟨gb104, 0, none⟩ = some (.string t102) := (blk_cell BK104.out 0).trans rfl
                  have hcz46_1 : wc.cell? ⟨gb104, 1, none⟩ = some (.string t103) := (blk_cell BK104.out 1).trans rfl
                  have hfz46_0 := blk_frozen BK104.out 0
                  have hfz46_1 := blk_frozen BK104.out 1
                  go_wp2_with (first | ((with_reducible refine gate_callee (f := 28) rfl ?_); refine goesL_ (some 54) rfl rfl Try.func28 (by kernel_rfl) rfl #[.agg #[.string t102, .string t103], .string t105] rfl (by (try simp only [List.map_toArray, List.map_cons, List.map_nil]); first | done | rfl | (simp only [List.length_drop, List.length_take]; rfl)) ?_; (with_reducible refine (bound_Has.calls t102 t103 t105 t111 _ A35.out).mono ?_); rintro e w47 ⟨rfl, hb⟩; refine ⟨_, rfl, ?_⟩; have n0_ := Aside0.mk (blk_below (g := gb104) (o := .cells #[.string t102, .string t103] 23 (0, 0)) (by (with_reducible repeat (first | refine blk_drewN ?_ _ | refine blk_drew ?_ | refine blk_alloc ?_ _)); exact BK104.out) hb); have n1_ := Aside0.mk (below_step (by repeat (first | (with_reducible first | exact HB.out | apply below_alloc | apply pw_below_drewN | apply below_drew1 | refine below_set ?_ GE104.out) | exact HB.out)) hb); clear BK104; clear HB; have BK104 := n0_; have HB := n1_; clear n0_ n1_; (try clear hb); (try clear hb2); (try clear hk); (try clear hi)) | (go_at_call 12; (with_reducible refine (furlonglaw02_live.calls  t113 _ A45.out).mono ?_); rintro e w48 ⟨rfl, hb⟩; have n0_ := Aside0.mk (blk_below (g := gb104) (o := .cells #[.string t102, .string t103] 23 (0, 0)) (by (with_reducible repeat (first | refine blk_drewN ?_ _ | refine blk_drew ?_ | refine blk_alloc ?_ _)); exact BK104.out) hb); have n1_ := Aside0.mk (below_step (by repeat (first | (with_reducible first | exact HB.out | apply below_alloc | apply pw_below_drewN | apply below_drew1 | refine below_set ?_ GE104.out) | exact HB.out)) hb); clear BK104; clear HB; have BK104 := n0_; have HB := n1_; clear n0_ n1_; (try clear hb); (try clear hb2); (try clear hk); (try clear hi)))
                  go_ret
                  exact ⟨by first | rfl | (simp [errW_none, errW_some] <;> rfl) | (simp [*, errW_none, errW_some] <;> rfl), by repeat (first | (with_reducible first | exact HB.out | apply below_alloc | apply pw_below_drewN | apply below_drew1 | refine below_set ?_ GE104.out) | exact HB.out)⟩
                · rw [if_neg c44] at H
                  have c44b0 : (t111 == (Op.bytesLess a1.toList a2.toList)) = false := by simpa using c44
                  (try (have c44b1 : decide (t111 = (Op.bytesLess a1.toList a2.toList)) = false := by simpa using c44))
                  (try (have c44b2 : (t111 == (Op.bytesLess a1.toList a2.toList)) = false := by simpa using c44))
                  (try (have c44b3 : ¬ (t111 = (Op.bytesLess a1.toList a2.toList)) := by simpa using c44))
                  clear c44
                  obtain rfl := Option.some.inj H
                  have hcz49_0 : wc.cell? ⟨gb104, 0, none⟩ = some (.string t102) := (blk_cell BK104.out 0).trans rfl
                  have hcz49_1 : wc.cell? ⟨gb104, 1, none⟩ = some (.string t103) := (blk_cell BK104.out 1).trans rfl
                  have hfz49_0 := blk_frozen BK104.out 0
                  have hfz49_1 := blk_frozen BK104.out 1
                  go_wp2_with (first | ((with_reducible refine gate_callee (f := 28) rfl ?_); refine goesL_ (some 54) rfl rfl Try.func28 (by kernel_rfl) rfl #[.agg #[.string t102, .string t103], .string t105] rfl (by (try simp only [List.map_toArray, List.map_cons, List.map_nil]); first | done | rfl | (simp only [List.length_drop, List.length_take]; rfl)) ?_; (with_reducible refine (bound_Has.calls t102 t103 t105 t111 _ A35.out).mono ?_); rintro e w50 ⟨rfl, hb⟩; refine ⟨_, rfl, ?_⟩; have n0_ := Aside0.mk (blk_below (g := gb104) (o := .cells #[.string t102, .string t103] 23 (0, 0)) (by (with_reducible repeat (first | refine blk_drewN ?_ _ | refine blk_drew ?_ | refine blk_alloc ?_ _)); exact BK104.out) hb); have n1_ := Aside0.mk (below_step (by repeat (first | (with_reducible first | exact HB.out | apply below_alloc | apply pw_below_drewN | apply below_drew1 | refine below_set ?_ GE104.out) | exact HB.out)) hb); clear BK104; clear HB; have BK104 := n0_; have HB := n1_; clear n0_ n1_; (try clear hb); (try clear hb2); (try clear hk); (try clear hi)))
                  go_ret
                  exact ⟨by first | rfl | (simp [errW_none, errW_some] <;> rfl) | (simp [*, errW_none, errW_some] <;> rfl), by repeat (first | (with_reducible first | exact HB.out | apply below_alloc | apply pw_below_drewN | apply below_drew1 | refine below_set ?_ GE104.out) | exact HB.out)⟩

/-- THE ONE PURE STATEMENT of furlonglaw02_BoundSearch: yours. -/
def furlonglaw02_BoundSearch.Pure : Prop := ∀ (a0 : Int) (a1 : ByteArray) (a2 : ByteArray), (Lit.int .i64 a0).wf = true → a1.size ≤ 140737488351232 → a2.size ≤ 140737488351232 → ∃ k, furlonglaw02_BoundSearch.f k a0 a1 a2 = some true
theorem furlonglaw02_BoundSearch.walk (P : furlonglaw02_BoundSearch.Pure) (a0 : Int) (a1 : ByteArray) (a2 : ByteArray) (w : World) (w0 : (Lit.int .i64 a0).wf = true) (w1 : a1.size ≤ 140737488351232) (w2 : a2.size ≤ 140737488351232) :
    Calls Try.prog 7 #[.int .i64 a0, .string a1, .string a2] w fun e w' => e = .returned (.bool true) ∧ Below w.heap.size w w' := by
  obtain ⟨k, h⟩ := P a0 a1 a2 w0 w1 w2
  refine (furlonglaw02_BoundSearch.calls k a0 a1 a2 true w h).mono ?_
  rintro e w' ⟨rfl, hd⟩
  exact ⟨rfl, hd⟩

end Go.Proofs.Ytocfiflcbblakaa.XSr
