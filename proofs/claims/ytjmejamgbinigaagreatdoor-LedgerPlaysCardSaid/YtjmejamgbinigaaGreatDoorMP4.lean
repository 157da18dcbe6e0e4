/-
  Lemmas, joined of the texts XRs2 XRs PR1 PR2 PR3.
-/
import Derived.Test.YtjmejamgbinigaaGreatDoorMP3
import Derived.Test.YtjmejamgbinigaaGreatDoorMP1
import Derived.Test.YtjmejamgbinigaaGreatDoorMB13
namespace Go.Proofs.YtjmejamgbinigaaGreatDoor.XRs
open Go.RowKit Go.Proofs.YtjmejamgbinigaaGreatDoorW.PrintWords Go.Proofs.YtjmejamgbinigaaGreatDoorW.PrintLast Go.Proofs.YtjmejamgbinigaaGreatDoorW.PrintMore
attribute [local go_sem] max2_int min2_int max_two min_two max_three min_three max_four min_four   -- for this text's walks alone
set_option linter.unusedVariables false
set_option linter.unusedSimpArgs false

/-! ### furlongref01_Sum: function 73 -/
def furlongref01_Sum.l0 : Nat → ByteArray → Int → Int → Int → Option (Int)
  | 0, _, _, _, _ => none
  | k + 1, x0, x3, x4, x5 => if x5 < (x0.size : Int) then (if 0 ≤ x5 then (furlongref01_Sum.l0 k x0 (((x3 + ((bt x0 x5) % 4294967296)) % 4294967296) % 65521) (((x4 + (((x3 + ((bt x0 x5) % 4294967296)) % 4294967296) % 65521)) % 4294967296) % 65521) (wrap64 (x5 + 1))) else (none)) else (some (Go.bits .or .u32 ((x4 * 65536) % 4294967296) x3))
def furlongref01_Sum.f (k : Nat) (a0 : ByteArray) : Option (Int) := furlongref01_Sum.l0 k a0 1 0 0
theorem furlongref01_Sum.mono_l : ∀ k, (∀ y0 y1 y2 y3, LeO (furlongref01_Sum.l0 k y0 y1 y2 y3) (furlongref01_Sum.l0 (k + 1) y0 y1 y2 y3))
  | 0 => fun _ _ _ _ r h => by simp [furlongref01_Sum.l0] at h
  | k + 1 => by
    have ih0 := furlongref01_Sum.mono_l k
    · intro y0 y1 y2 y3
      unfold furlongref01_Sum.l0
      repeat' first
      | (with_reducible exact ih0 _ _ _ _)
      | (with_reducible exact LeO.refl _)
      | (with_reducible exact LeO.none _)
      | (with_reducible refine LeO.ite ?_ ?_)
      | (with_reducible refine LeO.bind ?_ (fun _ => ?_))
      | exact ih0 _ _ _ _
      | exact LeO.none _
      | refine LeO.ite ?_ ?_
      | refine LeO.bind ?_ (fun _ => ?_)
theorem furlongref01_Sum.mono : ∀ a0 k, LeO (furlongref01_Sum.f k a0) (furlongref01_Sum.f (k + 1) a0) := by
  intro a0 k
  have ih0 := furlongref01_Sum.mono_l k
  unfold furlongref01_Sum.f
  repeat' first
      | (with_reducible exact ih0 _ _ _ _)
      | (with_reducible exact LeO.refl _)
      | (with_reducible exact LeO.none _)
      | (with_reducible refine LeO.ite ?_ ?_)
      | (with_reducible refine LeO.bind ?_ (fun _ => ?_))
      | exact ih0 _ _ _ _
      | exact LeO.none _
      | refine LeO.ite ?_ ?_
      | refine LeO.bind ?_ (fun _ => ?_)
set_option maxHeartbeats 8000000 in
set_option maxRecDepth 100000 in
theorem furlongref01_Sum.calls (k : Nat) (a0 : ByteArray) (r : Int) (w : World) (h : furlongref01_Sum.f k a0 = some r) :
    Calls Tryz.prog 73 #[.string a0] w fun e w' => e = .returned (.int .u32 r) ∧ Drawn0 w w' := by
  have H : (furlongref01_Sum.l0 k a0 1 0 0) = some r := h
  clear h
  have H' := Aside0.mk H
  clear H
  go_enter Tryz.func73, Tryz.ntmps73
  go_wp2
  go_loopg [3, 4, 5] k (fun kq v3 v4 v5 w' => ∃ (x3_1 : Int) (x4_1 : Int) (x5_1 : Int), v3 = .int .u32 x3_1 ∧ v4 = .int .u32 x4_1 ∧ v5 = .int .i64 x5_1 ∧ Aside0 (furlongref01_Sum.l0 kq a0 x3_1 x4_1 x5_1 = some r) ∧ Aside0 (kq ≤ k) ∧ Drawn0 w w')
  case atStart => exact ⟨(1), (0), (0), (by first | rfl | (simp; done) | (simp [*]; done)), (by first | rfl | (simp; done) | (simp [*]; done)), (by first | rfl | (simp; done) | (simp [*]; done)), H', ⟨Nat.le_refl _⟩, by repeat (first | exact Drawn0.refl _ | apply Drawn0.step)⟩
  case round =>
    clear H'
    obtain ⟨x3_1, x4_1, x5_1, rfl, rfl, rfl, HA, HK1, ⟨m1, rfl⟩⟩ := hrel
    cases gk with
    | zero => exact absurd HA.out (by simp [furlongref01_Sum.l0])
    | succ k1 =>
      have H := HA.out
      clear HA
      simp only [furlongref01_Sum.l0] at H
      by_cases c2 : x5_1 < (a0.size : Int)
      · rw [if_pos c2] at H
        have c2b0 : decide (x5_1 < (a0.size : Int)) = true := decide_eq_true c2
        clear c2
        by_cases c3 : 0 ≤ x5_1
        · rw [if_pos c3] at H
          have c3b0 : decide (0 ≤ x5_1) = true := decide_eq_true c3
          clear c3
          have H' := Aside0.mk H
          clear H
          have p4 : 0 ≤ (x5_1 : Int) := of_decide_eq_true (by first | (with_reducible assumption) | assumption)
          have q4 : x5_1 < (a0.size : Int) := of_decide_eq_true (by first | (with_reducible assumption) | assumption)
          have hx4 := bt_at a0 x5_1
          replace p4 := eq_true p4
          replace q4 := eq_true q4
          go_wp2
          go_roundg k1
          case measure => have := HK1.out; omega
          case rel => exact ⟨(((x3_1 + ((bt a0 x5_1) % 4294967296)) % 4294967296) % 65521), (((x4_1 + (((x3_1 + ((bt a0 x5_1) % 4294967296)) % 4294967296) % 65521)) % 4294967296) % 65521), (wrap64 (x5_1 + 1)), (by first | rfl | (simp; done) | (simp [*]; done)), (by first | rfl | (simp; done) | (simp [*]; done)), (by first | rfl | (simp; done) | (simp [*]; done)), H', ⟨by have := HK1.out; omega⟩, by repeat (first | exact Drawn0.refl _ | apply Drawn0.step)⟩
        · rw [if_neg c3] at H
          exact absurd H (by simp)
      · rw [if_neg c2] at H
        have c2b0 : decide (x5_1 < (a0.size : Int)) = false := decide_eq_false c2
        clear c2
        obtain rfl := Option.some.inj H
        go_wp2
        go_ret
        exact ⟨by first | rfl | (simp; done) | (simp [*]; done), by repeat (first | exact Drawn0.refl _ | apply Drawn0.step)⟩

/-! ### furlongref01_Seal: function 57 -/
def furlongref01_Seal.l0 : Nat → ByteArray → Int → Int → Option (ByteArray)
  | 0, _, _, _ => none
  | k + 1, x0, x3, x4 => if x4 < 8 then (if 0 ≤ (IntKind.u64.wrap (wrap64 (28 - (wrap64 (4 * x4))))) then (if 0 ≤ (Go.bits .and .u32 (shr .u32 x3 (IntKind.u64.wrap (wrap64 (28 - (wrap64 (4 * x4)))))) 15) then (if (Go.bits .and .u32 (shr .u32 x3 (IntKind.u64.wrap (wrap64 (28 - (wrap64 (4 * x4)))))) 15) ≤ (((Go.bits .and .u32 (shr .u32 x3 (IntKind.u64.wrap (wrap64 (28 - (wrap64 (4 * x4)))))) 15) + 1) % 4294967296) then (if (((Go.bits .and .u32 (shr .u32 x3 (IntKind.u64.wrap (wrap64 (28 - (wrap64 (4 * x4)))))) 15) + 1) % 4294967296) ≤ 16 then (if x0.size + ((⟨#[48, 49, 50, 51, 52, 53, 54, 55, 56, 57, 97, 98, 99, 100, 101, 102]⟩ : ByteArray).extract ((Go.bits .and .u32 (shr .u32 x3 (IntKind.u64.wrap (wrap64 (28 - (wrap64 (4 * x4)))))) 15) : Int).toNat ((((Go.bits .and .u32 (shr .u32 x3 (IntKind.u64.wrap (wrap64 (28 - (wrap64 (4 * x4)))))) 15) + 1) % 4294967296) : Int).toNat).size ≤ 9223372036854775807 then (furlongref01_Seal.l0 k (x0 ++ ((⟨#[48, 49, 50, 51, 52, 53, 54, 55, 56, 57, 97, 98, 99, 100, 101, 102]⟩ : ByteArray).extract ((Go.bits .and .u32 (shr .u32 x3 (IntKind.u64.wrap (wrap64 (28 - (wrap64 (4 * x4)))))) 15) : Int).toNat ((((Go.bits .and .u32 (shr .u32 x3 (IntKind.u64.wrap (wrap64 (28 - (wrap64 (4 * x4)))))) 15) + 1) % 4294967296) : Int).toNat)) x3 (wrap64 (x4 + 1))) else (none)) else (none)) else (none)) else (none)) else (none)) else (some x0)
def furlongref01_Seal.f (k : Nat) (a0 : ByteArray) : Option (ByteArray) := (furlongref01_Sum.f k a0).bind fun t101 => (furlongref01_Seal.l0 k a0 t101 0)
theorem furlongref01_Seal.mono_l : ∀ k, (∀ y0 y1 y2, LeO (furlongref01_Seal.l0 k y0 y1 y2) (furlongref01_Seal.l0 (k + 1) y0 y1 y2))
  | 0 => fun _ _ _ r h => by simp [furlongref01_Seal.l0] at h
  | k + 1 => by
    have ih0 := furlongref01_Seal.mono_l k
    · intro y0 y1 y2
      unfold furlongref01_Seal.l0
      repeat' first
      | (with_reducible exact ih0 _ _ _)
      | (with_reducible exact furlongref01_Sum.mono _ _)
      | (with_reducible exact LeO.refl _)
      | (with_reducible exact LeO.none _)
      | (with_reducible refine LeO.ite ?_ ?_)
      | (with_reducible refine LeO.bind ?_ (fun _ => ?_))
      | exact ih0 _ _ _
      | exact furlongref01_Sum.mono _ _
      | exact LeO.none _
      | refine LeO.ite ?_ ?_
      | refine LeO.bind ?_ (fun _ => ?_)
theorem furlongref01_Seal.mono : ∀ a0 k, LeO (furlongref01_Seal.f k a0) (furlongref01_Seal.f (k + 1) a0) := by
  intro a0 k
  have ih0 := furlongref01_Seal.mono_l k
  unfold furlongref01_Seal.f
  repeat' first
      | (with_reducible exact ih0 _ _ _)
      | (with_reducible exact furlongref01_Sum.mono _ _)
      | (with_reducible exact LeO.refl _)
      | (with_reducible exact LeO.none _)
      | (with_reducible refine LeO.ite ?_ ?_)
      | (with_reducible refine LeO.bind ?_ (fun _ => ?_))
      | exact ih0 _ _ _
      | exact furlongref01_Sum.mono _ _
      | exact LeO.none _
      | refine LeO.ite ?_ ?_
      | refine LeO.bind ?_ (fun _ => ?_)
set_option maxHeartbeats 8000000 in
set_option maxRecDepth 100000 in
theorem furlongref01_Seal.calls (k : Nat) (a0 : ByteArray) (r : ByteArray) (w : World) (h : furlongref01_Seal.f k a0 = some r) :
    Calls Tryz.prog 57 #[.string a0] w fun e w' => e = .returned (.string r) ∧ Drawn0 w w' := by
  have H : ((furlongref01_Sum.f k a0).bind fun t101 => (furlongref01_Seal.l0 k a0 t101 0)) = some r := h
  clear h
  replace H := Option.bind_eq_some_iff.mp H
  obtain ⟨t101, A20, H⟩ := H
  replace H : (furlongref01_Seal.l0 k a0 t101 0) = some r := H
  have A2 := Aside0.mk A20
  clear A20
  have H' := Aside0.mk H
  clear H
  go_enter Tryz.func57, Tryz.ntmps57
  go_wp2_with (first | ((with_reducible refine gate_callee (f := 73) rfl ?_); refine goesL_ (some 7) rfl rfl Tryz.func73 (by kernel_rfl) rfl #[.string a0] rfl (by (try simp only [List.map_toArray, List.map_cons, List.map_nil]); first | done | rfl | (simp only [List.length_drop, List.length_take]; rfl)) ?_; (with_reducible refine (furlongref01_Sum.calls k a0 t101 _ A2.out).mono ?_); rintro e w' ⟨rfl, ⟨nd, rfl⟩⟩; refine ⟨_, rfl, ?_⟩))
  go_loopg [0, 4] k (fun kq v0 v4 w' => ∃ (x0_1 : ByteArray) (x4_1 : Int), v0 = .string x0_1 ∧ v4 = .int .i64 x4_1 ∧ Aside0 (furlongref01_Seal.l0 kq x0_1 t101 x4_1 = some r) ∧ Aside0 (kq ≤ k) ∧ Drawn0 w w')
  case atStart => exact ⟨(a0), (0), (by first | rfl | (simp; done) | (simp [*]; done)), (by first | rfl | (simp; done) | (simp [*]; done)), H', ⟨Nat.le_refl _⟩, by repeat (first | exact Drawn0.refl _ | apply Drawn0.step)⟩
  case round =>
    clear H'
    try clear p2
    obtain ⟨x0_1, x4_1, rfl, rfl, HA, HK1, ⟨m1, rfl⟩⟩ := hrel
    cases gk with
    | zero => exact absurd HA.out (by simp [furlongref01_Seal.l0])
    | succ k1 =>
      have H := HA.out
      clear HA
      simp only [furlongref01_Seal.l0] at H
      by_cases c3 : x4_1 < 8
      · rw [if_pos c3] at H
        have c3b0 : decide (x4_1 < 8) = true := decide_eq_true c3
        clear c3
        obtain ⟨ji4, hji4⟩ : ∃ j_ : Int, (IntKind.u64.wrap (wrap64 (28 - (wrap64 (4 * x4_1))))) = j_ := ⟨_, rfl⟩
        replace H : (if 0 ≤ (ji4) then (if 0 ≤ (Go.bits .and .u32 (shr .u32 t101 (ji4)) 15) then (if (Go.bits .and .u32 (shr .u32 t101 (ji4)) 15) ≤ (((Go.bits .and .u32 (shr .u32 t101 (ji4)) 15) + 1) % 4294967296) then (if (((Go.bits .and .u32 (shr .u32 t101 (ji4)) 15) + 1) % 4294967296) ≤ 16 then (if x0_1.size + ((⟨#[48, 49, 50, 51, 52, 53, 54, 55, 56, 57, 97, 98, 99, 100, 101, 102]⟩ : ByteArray).extract ((Go.bits .and .u32 (shr .u32 t101 (ji4)) 15) : Int).toNat ((((Go.bits .and .u32 (shr .u32 t101 (ji4)) 15) + 1) % 4294967296) : Int).toNat).size ≤ 9223372036854775807 then (furlongref01_Seal.l0 k1 (x0_1 ++ ((⟨#[48, 49, 50, 51, 52, 53, 54, 55, 56, 57, 97, 98, 99, 100, 101, 102]⟩ : ByteArray).extract ((Go.bits .and .u32 (shr .u32 t101 (ji4)) 15) : Int).toNat ((((Go.bits .and .u32 (shr .u32 t101 (ji4)) 15) + 1) % 4294967296) : Int).toNat)) t101 (wrap64 (x4_1 + 1))) else (none)) else (none)) else (none)) else (none)) else (none)) = some r := by first | (rw [hji4] at H; exact H) | (simp only [hji4] at H ⊢; exact H)
        by_cases c5 : 0 ≤ (ji4)
        · rw [if_pos c5] at H
          have c5b0 := eq_true c5
          have c5b1 : decide (0 ≤ (ji4)) = true := decide_eq_true c5
          clear c5
          obtain ⟨ji6, hji6⟩ : ∃ j_ : Int, (shr .u32 t101 (ji4)) = j_ := ⟨_, rfl⟩
          replace H : (if 0 ≤ (Go.bits .and .u32 (ji6) 15) then (if (Go.bits .and .u32 (ji6) 15) ≤ (((Go.bits .and .u32 (ji6) 15) + 1) % 4294967296) then (if (((Go.bits .and .u32 (ji6) 15) + 1) % 4294967296) ≤ 16 then (if x0_1.size + ((⟨#[48, 49, 50, 51, 52, 53, 54, 55, 56, 57, 97, 98, 99, 100, 101, 102]⟩ : ByteArray).extract ((Go.bits .and .u32 (ji6) 15) : Int).toNat ((((Go.bits .and .u32 (ji6) 15) + 1) % 4294967296) : Int).toNat).size ≤ 9223372036854775807 then (furlongref01_Seal.l0 k1 (x0_1 ++ ((⟨#[48, 49, 50, 51, 52, 53, 54, 55, 56, 57, 97, 98, 99, 100, 101, 102]⟩ : ByteArray).extract ((Go.bits .and .u32 (ji6) 15) : Int).toNat ((((Go.bits .and .u32 (ji6) 15) + 1) % 4294967296) : Int).toNat)) t101 (wrap64 (x4_1 + 1))) else (none)) else (none)) else (none)) else (none)) = some r := by first | (rw [hji6] at H; exact H) | (simp only [hji6] at H ⊢; exact H)
          have hji6_ : (t101 / 2 ^ min (ji4).toNat 32) = ji6 := hji6
          have hji6z : (ji4) ≤ 32 → (t101 / 2 ^ (ji4).toNat) = ji6 := shr_small hji6
          by_cases c7 : 0 ≤ (Go.bits .and .u32 (ji6) 15)
          · rw [if_pos c7] at H
            have c7b0 := eq_true c7
            have c7b1 : decide (0 ≤ (Go.bits .and .u32 (ji6) 15)) = true := decide_eq_true c7
            clear c7
            by_cases c8 : (Go.bits .and .u32 (ji6) 15) ≤ (((Go.bits .and .u32 (ji6) 15) + 1) % 4294967296)
            · rw [if_pos c8] at H
              have c8b0 := eq_true c8
              have c8b1 : decide ((Go.bits .and .u32 (ji6) 15) ≤ (((Go.bits .and .u32 (ji6) 15) + 1) % 4294967296)) = true := decide_eq_true c8
              by_cases c9 : (((Go.bits .and .u32 (ji6) 15) + 1) % 4294967296) ≤ 16
              · rw [if_pos c9] at H
                have c9b0 := eq_true c9
                have c9b1 : decide ((((Go.bits .and .u32 (ji6) 15) + 1) % 4294967296) ≤ 16) = true := decide_eq_true c9
                by_cases c10 : x0_1.size + ((⟨#[48, 49, 50, 51, 52, 53, 54, 55, 56, 57, 97, 98, 99, 100, 101, 102]⟩ : ByteArray).extract ((Go.bits .and .u32 (ji6) 15) : Int).toNat ((((Go.bits .and .u32 (ji6) 15) + 1) % 4294967296) : Int).toNat).size ≤ 9223372036854775807
                · rw [if_pos c10] at H
                  have c10b0 := eq_true c10
                  have c10b1 : decide (x0_1.size + ((⟨#[48, 49, 50, 51, 52, 53, 54, 55, 56, 57, 97, 98, 99, 100, 101, 102]⟩ : ByteArray).extract ((Go.bits .and .u32 (ji6) 15) : Int).toNat ((((Go.bits .and .u32 (ji6) 15) + 1) % 4294967296) : Int).toNat).size ≤ 9223372036854775807) = true := decide_eq_true c10
                  try have c10b2 : (9223372036854775807 < x0_1.size + ((⟨#[48, 49, 50, 51, 52, 53, 54, 55, 56, 57, 97, 98, 99, 100, 101, 102]⟩ : ByteArray).extract ((Go.bits .and .u32 (ji6) 15) : Int).toNat ((((Go.bits .and .u32 (ji6) 15) + 1) % 4294967296) : Int).toNat).size) = False := eq_false (Nat.not_lt.2 c10)
                  have H' := Aside0.mk H
                  clear H
                  go_wp2
                  go_roundg k1
                  case measure => have := HK1.out; omega
                  case rel => exact ⟨(x0_1 ++ ((⟨#[48, 49, 50, 51, 52, 53, 54, 55, 56, 57, 97, 98, 99, 100, 101, 102]⟩ : ByteArray).extract ((Go.bits .and .u32 (ji6) 15) : Int).toNat ((((Go.bits .and .u32 (ji6) 15) + 1) % 4294967296) : Int).toNat)), (wrap64 (x4_1 + 1)), (by first | rfl | (simp; done) | (simp only [← hji6] <;> (first | rfl | simp)) | (simp [*]; done)), (by first | rfl | (simp; done) | (simp [*]; done)), H', ⟨by have := HK1.out; omega⟩, by repeat (first | exact Drawn0.refl _ | apply Drawn0.step)⟩
                · rw [if_neg c10] at H
                  exact absurd H (by simp)
              · rw [if_neg c9] at H
                exact absurd H (by simp)
            · rw [if_neg c8] at H
              exact absurd H (by simp)
          · rw [if_neg c7] at H
            exact absurd H (by simp)
        · rw [if_neg c5] at H
          exact absurd H (by simp)
      · rw [if_neg c3] at H
        have c3b0 : decide (x4_1 < 8) = false := decide_eq_false c3
        clear c3
        obtain rfl := Option.some.inj H
        go_wp2
        go_ret
        exact ⟨by first | rfl | (simp; done) | (simp [*]; done), by repeat (first | exact Drawn0.refl _ | apply Drawn0.step)⟩

/-! ### furlongref01_Open: function 70 -/
def furlongref01_Open.f (k : Nat) (a0 : ByteArray) : Option (ByteArray × Int) := if (a0.size : Int) < 8 then (some ((⟨#[]⟩ : ByteArray), 11)) else (if 0 ≤ (wrap64 ((a0.size : Int) - 8)) then (if (wrap64 ((a0.size : Int) - 8)) ≤ (a0.size : Int) then ((furlongref01_Seal.f k (a0.extract 0 ((wrap64 ((a0.size : Int) - 8)) : Int).toNat)).bind fun t102 => (if t102.toList = a0.toList then (some (a0.extract 0 ((wrap64 ((a0.size : Int) - 8)) : Int).toNat, 0)) else (some ((⟨#[]⟩ : ByteArray), 11)))) else (none)) else (none))
theorem furlongref01_Open.mono : ∀ a0 k, LeO (furlongref01_Open.f k a0) (furlongref01_Open.f (k + 1) a0) := by
  intro a0 k
  unfold furlongref01_Open.f
  repeat' first
      | (with_reducible exact furlongref01_Seal.mono _ _)
      | (with_reducible exact LeO.refl _)
      | (with_reducible exact LeO.none _)
      | (with_reducible refine LeO.ite ?_ ?_)
      | (with_reducible refine LeO.bind ?_ (fun _ => ?_))
      | exact furlongref01_Seal.mono _ _
      | exact LeO.none _
      | refine LeO.ite ?_ ?_
      | refine LeO.bind ?_ (fun _ => ?_)
set_option maxHeartbeats 8000000 in
set_option maxRecDepth 100000 in
theorem furlongref01_Open.calls (k : Nat) (a0 : ByteArray) (r1 : ByteArray) (r2 : Int) (w : World) (h : furlongref01_Open.f k a0 = some (r1, r2)) :
    Calls Tryz.prog 70 #[.string a0] w fun e w' => e = .returned (.tuple #[.string r1, .int .i64 r2]) ∧ Drawn0 w w' := by
  have H : (if (a0.size : Int) < 8 then (some ((⟨#[]⟩ : ByteArray), 11)) else (if 0 ≤ (wrap64 ((a0.size : Int) - 8)) then (if (wrap64 ((a0.size : Int) - 8)) ≤ (a0.size : Int) then ((furlongref01_Seal.f k (a0.extract 0 ((wrap64 ((a0.size : Int) - 8)) : Int).toNat)).bind fun t102 => (if t102.toList = a0.toList then (some (a0.extract 0 ((wrap64 ((a0.size : Int) - 8)) : Int).toNat, 0)) else (some ((⟨#[]⟩ : ByteArray), 11)))) else (none)) else (none))) = some (r1, r2) := h
  clear h
  by_cases c2 : (a0.size : Int) < 8
  · rw [if_pos c2] at H
    have c2b0 : decide ((a0.size : Int) < 8) = true := decide_eq_true c2
    have c2b1 : decide (a0.size < 8) = true := decide_eq_true (by omega)
    clear c2
    simp only [Option.some.injEq, Prod.mk.injEq] at H
    obtain ⟨rfl, rfl⟩ := H
    go_enter Tryz.func70, Tryz.ntmps70
    go_wp2
    go_ret2
    exact ⟨by first | rfl | (simp; done) | (simp [*]; done), by repeat (first | exact Drawn0.refl _ | apply Drawn0.step)⟩
  · rw [if_neg c2] at H
    have c2b0 : decide ((a0.size : Int) < 8) = false := decide_eq_false c2
    have c2b1 : decide (a0.size < 8) = false := decide_eq_false (by omega)
    clear c2
    obtain ⟨ji3, hji3⟩ : ∃ j_ : Int, (wrap64 ((a0.size : Int) - 8)) = j_ := ⟨_, rfl⟩
    replace H : (if 0 ≤ (ji3) then (if (ji3) ≤ (a0.size : Int) then ((furlongref01_Seal.f k (a0.extract 0 ((ji3) : Int).toNat)).bind fun t102 => (if t102.toList = a0.toList then (some (a0.extract 0 ((ji3) : Int).toNat, 0)) else (some ((⟨#[]⟩ : ByteArray), 11)))) else (none)) else (none)) = some (r1, r2) := by first | (rw [hji3] at H; exact H) | (simp only [hji3] at H ⊢; exact H)
    have hji3w : (IntKind.i64.wrap ((a0.size : Int) - 8)) = ji3 := (i64_w _).trans hji3
    by_cases c4 : 0 ≤ (ji3)
    · rw [if_pos c4] at H
      have c4b0 := eq_true c4
      have c4b1 : decide (0 ≤ (ji3)) = true := decide_eq_true c4
      clear c4
      by_cases c5 : (ji3) ≤ (a0.size : Int)
      · rw [if_pos c5] at H
        have c5b0 := eq_true c5
        have c5b1 : decide ((ji3) ≤ (a0.size : Int)) = true := decide_eq_true c5
        clear c5
        replace H := Option.bind_eq_some_iff.mp H
        obtain ⟨t102, A60, H⟩ := H
        replace H : (if t102.toList = a0.toList then (some (a0.extract 0 ((ji3) : Int).toNat, 0)) else (some ((⟨#[]⟩ : ByteArray), 11))) = some (r1, r2) := H
        have A6 := Aside0.mk A60
        clear A60
        by_cases c7 : t102.toList = a0.toList
        · rw [if_pos c7] at H
          have c7b0 : (t102.toList == a0.toList) = true := beq_iff_eq.mpr c7
          have c7b1 : (t102.toList != a0.toList) = false := bne_eq_false_iff_eq.mpr c7
          clear c7
          have c8b0 := eq_true (of_decide_eq_true (by first | (with_reducible assumption) | assumption) : 0 ≤ (ji3))
          have c9b0 := eq_true (of_decide_eq_true (by first | (with_reducible assumption) | assumption) : (ji3) ≤ (a0.size : Int))
          simp only [Option.some.injEq, Prod.mk.injEq] at H
          obtain ⟨rfl, rfl⟩ := H
          go_enter Tryz.func70, Tryz.ntmps70
          go_wp2_with (first | (go_at_call 57; (with_reducible refine (furlongref01_Seal.calls k (a0.extract 0 ((ji3) : Int).toNat) t102 _ A6.out).mono ?_); rintro e w' ⟨rfl, ⟨nd, rfl⟩⟩))
          go_ret2
          exact ⟨by first | rfl | (simp; done) | (simp only [← hji3] <;> (first | rfl | simp)) | (simp [*]; done), by repeat (first | exact Drawn0.refl _ | apply Drawn0.step)⟩
        · rw [if_neg c7] at H
          have c7b0 : (t102.toList == a0.toList) = false := beq_eq_false_iff_ne.mpr c7
          have c7b1 : (t102.toList != a0.toList) = true := bne_iff_ne.mpr c7
          simp only [Option.some.injEq, Prod.mk.injEq] at H
          obtain ⟨rfl, rfl⟩ := H
          go_enter Tryz.func70, Tryz.ntmps70
          go_wp2_with (first | (go_at_call 57; (with_reducible refine (furlongref01_Seal.calls k (a0.extract 0 ((ji3) : Int).toNat) t102 _ A6.out).mono ?_); rintro e w' ⟨rfl, ⟨nd, rfl⟩⟩))
          go_ret2
          exact ⟨by first | rfl | (simp; done) | (simp only [← hji3] <;> (first | rfl | simp)) | (simp [*]; done), by repeat (first | exact Drawn0.refl _ | apply Drawn0.step)⟩
      · rw [if_neg c5] at H
        exact absurd H (by simp)
    · rw [if_neg c4] at H
      exact absurd H (by simp)

/-! ### furlongref01_Untie: function 71 -/
def furlongref01_Untie.l0 : Nat → ByteArray → List ByteArray → Option (List ByteArray × Int)
  | 0, _, _ => none
  | k + 1, x0, x4 => if x0.toList = ([] : List UInt8) then (some (x4, 0)) else ((furlongref01_First.f k x0).bind fun bt103 => (if bt103.2.2 = 0 then (if (x4.length : Int) = 4096 then (some (([] : List ByteArray), 10)) else (if x4.length < 8796093022208 then (furlongref01_Untie.l0 k bt103.2.1 (x4 ++ [bt103.1])) else (none))) else (some (([] : List ByteArray), 10))))
def furlongref01_Untie.f (k : Nat) (a0 : ByteArray) : Option (List ByteArray × Int) := if (a0.size : Int) > 1048576 then (some (([] : List ByteArray), 10)) else (furlongref01_Untie.l0 k a0 ([] : List ByteArray))
theorem furlongref01_Untie.mono_l : ∀ k, (∀ y0 y1, LeO (furlongref01_Untie.l0 k y0 y1) (furlongref01_Untie.l0 (k + 1) y0 y1))
  | 0 => fun _ _ r h => by simp [furlongref01_Untie.l0] at h
  | k + 1 => by
    have ih0 := furlongref01_Untie.mono_l k
    · intro y0 y1
      unfold furlongref01_Untie.l0
      repeat' first
      | (with_reducible exact ih0 _ _)
      | (with_reducible exact furlongref01_First.mono _ _)
      | (with_reducible exact LeO.refl _)
      | (with_reducible exact LeO.none _)
      | (with_reducible refine LeO.ite ?_ ?_)
      | (with_reducible refine LeO.bind ?_ (fun _ => ?_))
      | exact ih0 _ _
      | exact furlongref01_First.mono _ _
      | exact LeO.none _
      | refine LeO.ite ?_ ?_
      | refine LeO.bind ?_ (fun _ => ?_)
theorem furlongref01_Untie.mono : ∀ a0 k, LeO (furlongref01_Untie.f k a0) (furlongref01_Untie.f (k + 1) a0) := by
  intro a0 k
  have ih0 := furlongref01_Untie.mono_l k
  unfold furlongref01_Untie.f
  repeat' first
      | (with_reducible exact ih0 _ _)
      | (with_reducible exact furlongref01_First.mono _ _)
      | (with_reducible exact LeO.refl _)
      | (with_reducible exact LeO.none _)
      | (with_reducible refine LeO.ite ?_ ?_)
      | (with_reducible refine LeO.bind ?_ (fun _ => ?_))
      | exact ih0 _ _
      | exact furlongref01_First.mono _ _
      | exact LeO.none _
      | refine LeO.ite ?_ ?_
      | refine LeO.bind ?_ (fun _ => ?_)
set_option maxHeartbeats 8000000 in
set_option maxRecDepth 100000 in
theorem furlongref01_Untie.calls (k : Nat) (a0 : ByteArray) (r1 : List ByteArray) (r2 : Int) (w : World) (h : furlongref01_Untie.f k a0 = some (r1, r2)) :
    Calls Tryz.prog 71 #[.string a0] w fun e w' => ∃ v0_ : Value, e = .returned (.tuple #[v0_, .int .i64 r2]) ∧ Kd.R Kd.string 9 w' w.heap.size (fun _ => True) v0_ r1 ∧ Below w.heap.size w w' := by
  have HB := Aside0.mk (Below.refl w.heap.size w)
  have H : (if (a0.size : Int) > 1048576 then (some (([] : List ByteArray), 10)) else (furlongref01_Untie.l0 k a0 ([] : List ByteArray))) = some (r1, r2) := h
  clear h
  by_cases c2 : (a0.size : Int) > 1048576
  · rw [if_pos c2] at H
    have c2b0 : decide (1048576 < (a0.size : Int)) = true := decide_eq_true c2
    have c2b1 : decide (1048576 < a0.size) = true := decide_eq_true (by omega)
    clear c2
    simp only [Option.some.injEq, Prod.mk.injEq] at H
    obtain ⟨rfl, rfl⟩ := H
    go_enter Tryz.func71, Tryz.ntmps71
    go_wp2
    go_ret2
    exact ⟨_, by first | rfl | (simp [errW_none, errW_some] <;> rfl) | (simp [*, errW_none, errW_some] <;> rfl), by first | exact Kd.R_nil _ _ _ _ _ | exact Kd.N_nil _ _ _ _ _ | exact Kd.V_nil _ _ _ _ _ | exact Kd.Q_nil _ _ _ _ _ | exact Kd.S_nil _ _ _ _ _, by repeat (first | (with_reducible first | exact HB.out | apply below_alloc | apply pw_below_drewN | apply below_drew1) | exact HB.out)⟩
  · rw [if_neg c2] at H
    have c2b0 : decide (1048576 < (a0.size : Int)) = false := decide_eq_false c2
    have c2b1 : decide (1048576 < a0.size) = false := decide_eq_false (by omega)
    clear c2
    have H' := Aside0.mk H
    clear H
    go_enter Tryz.func71, Tryz.ntmps71
    go_wp2
    go_loopg [0, 4] k (fun kq v0 v4 w' => ∃ (x0_1 : ByteArray) (x4_1 : List ByteArray), v0 = .string x0_1 ∧ Aside0 (furlongref01_Untie.l0 kq x0_1 x4_1 = some (r1, r2)) ∧ Aside0 (kq ≤ k) ∧ Aside0 (Kd.R Kd.string 9 w' w.heap.size (fun _ => True) v4 x4_1) ∧ Aside0 (Below w.heap.size w w'))
    case atStart => exact ⟨(a0), (([] : List ByteArray)), (by first | rfl | (simp; done) | (simp [*]; done)), H', ⟨Nat.le_refl _⟩, ⟨by first | exact Kd.R_nil _ _ _ _ _ | exact Kd.N_nil _ _ _ _ _ | exact Kd.V_nil _ _ _ _ _ | exact Kd.Q_nil _ _ _ _ _ | exact Kd.S_nil _ _ _ _ _⟩, ⟨by repeat (first | (with_reducible first | exact HB.out | apply below_alloc | apply pw_below_drewN | apply below_drew1) | exact HB.out)⟩⟩
    case round =>
      clear H'
      try clear c2
      try clear c2b0
      try clear c2b1
      try clear p2
      obtain ⟨x0_1, x4_1, rfl, HA, HK1, HO_4, HB⟩ := hrel
      cases gk with
      | zero => exact absurd HA.out (by simp [furlongref01_Untie.l0])
      | succ k1 =>
        have H := HA.out
        clear HA
        simp only [furlongref01_Untie.l0] at H
        by_cases c3 : x0_1.toList = ([] : List UInt8)
        · rw [if_pos c3] at H
          have c3b0 : (x0_1.toList == ([] : List UInt8)) = true := beq_iff_eq.mpr c3
          have c3b1 : (x0_1.toList != ([] : List UInt8)) = false := bne_eq_false_iff_eq.mpr c3
          clear c3
          simp only [Option.some.injEq, Prod.mk.injEq] at H
          obtain ⟨rfl, rfl⟩ := H
          go_wp2
          go_ret2
          exact ⟨_, by first | rfl | (simp [errW_none, errW_some] <;> rfl) | (simp [*, errW_none, errW_some] <;> rfl), by (with_reducible repeat (first | apply Kd.R_alloc | apply Kd.R_drewN | apply Kd.R_drew)); exact HO_4.out, by repeat (first | (with_reducible first | exact HB.out | apply below_alloc | apply pw_below_drewN | apply below_drew1) | exact HB.out)⟩
        · rw [if_neg c3] at H
          have c3b0 : (x0_1.toList == ([] : List UInt8)) = false := beq_eq_false_iff_ne.mpr c3
          have c3b1 : (x0_1.toList != ([] : List UInt8)) = true := bne_iff_ne.mpr c3
          replace H := Option.bind_eq_some_iff.mp H
          obtain ⟨⟨t103, t104, t105⟩, A40, H⟩ := H
          replace H : (if t105 = 0 then (if (x4_1.length : Int) = 4096 then (some (([] : List ByteArray), 10)) else (if x4_1.length < 8796093022208 then (furlongref01_Untie.l0 k1 t104 (x4_1 ++ [t103])) else (none))) else (some (([] : List ByteArray), 10))) = some (r1, r2) := H
          have A4 := Aside0.mk A40
          clear A40
          by_cases c5 : t105 = 0
          · rw [if_pos c5] at H
            have c5b0 : (t105 == 0) = true := beq_iff_eq.mpr c5
            have c5b1 : (t105 != 0) = false := bne_eq_false_iff_eq.mpr c5
            clear c5
            by_cases c6 : (x4_1.length : Int) = 4096
            · rw [if_pos c6] at H
              have c6b0 : ((x4_1.length : Int) == 4096) = true := beq_iff_eq.mpr c6
              have c6b1 : ((x4_1.length : Int) != 4096) = false := bne_eq_false_iff_eq.mpr c6
              clear c6
              simp only [Option.some.injEq, Prod.mk.injEq] at H
              obtain ⟨rfl, rfl⟩ := H
              go_wp2_with (first | ((with_reducible refine gate_callee (f := 69) rfl ?_); refine goesL_ (some 15) rfl rfl Tryz.func69 (by kernel_rfl) rfl #[.string x0_1] rfl (by (try simp only [List.map_toArray, List.map_cons, List.map_nil]); first | done | rfl | (simp only [List.length_drop, List.length_take]; rfl)) ?_; (with_reducible refine (furlongref01_First.calls k1 x0_1 t103 t104 t105 _ A4.out).mono ?_); rintro e w' ⟨rfl, ⟨nd, rfl⟩⟩; refine ⟨_, rfl, ?_⟩; obtain ⟨Ao7, co7, eo7⟩ := Kd.R_slice HO_4.out; subst eo7))
              go_ret2
              exact ⟨_, by first | rfl | (simp [errW_none, errW_some] <;> rfl) | (simp [*, errW_none, errW_some] <;> rfl), by first | exact Kd.R_nil _ _ _ _ _ | exact Kd.N_nil _ _ _ _ _ | exact Kd.V_nil _ _ _ _ _ | exact Kd.Q_nil _ _ _ _ _ | exact Kd.S_nil _ _ _ _ _, by repeat (first | (with_reducible first | exact HB.out | apply below_alloc | apply pw_below_drewN | apply below_drew1) | exact HB.out)⟩
            · rw [if_neg c6] at H
              have c6b0 : ((x4_1.length : Int) == 4096) = false := beq_eq_false_iff_ne.mpr c6
              have c6b1 : ((x4_1.length : Int) != 4096) = true := bne_iff_ne.mpr c6
              by_cases c8 : x4_1.length < 8796093022208
              · rw [if_pos c8] at H
                have LMc8 := Aside0.mk c8
                clear c8
                obtain ⟨y106, hy106⟩ : ∃ y_ : List ByteArray, y_ = (x4_1 ++ [t103]) := ⟨_, rfl⟩
                replace H : (furlongref01_Untie.l0 k1 t104 y106) = some (r1, r2) := by first | (rw [hy106]; with_reducible exact H) | (have H2_ := (Option.bind_some _ _).symm.trans H; rw [hy106]; with_reducible exact H2_) | (have H2_ := (Option.bind_some _ _).symm.trans H; with_reducible exact H2_) | with_reducible exact H | (rw [hy106]; exact H) | exact H
                have Ny106 := Aside0.mk hy106
                clear hy106
                have H' := Aside0.mk H
                clear H
                go_wp2_with (first | ((with_reducible refine gate_callee (f := 69) rfl ?_); refine goesL_ (some 15) rfl rfl Tryz.func69 (by kernel_rfl) rfl #[.string x0_1] rfl (by (try simp only [List.map_toArray, List.map_cons, List.map_nil]); first | done | rfl | (simp only [List.length_drop, List.length_take]; rfl)) ?_; (with_reducible refine (furlongref01_First.calls k1 x0_1 t103 t104 t105 _ A4.out).mono ?_); rintro e w' ⟨rfl, ⟨nd, rfl⟩⟩; refine ⟨_, rfl, ?_⟩; obtain ⟨Ao9, co9, eo9⟩ := Kd.R_slice HO_4.out; subst eo9) | ((with_reducible refine gate_builtin (b := .append) (xs := #[.tmp 26, .tmp 28]) rfl ?_); (try (refine gate_guard (by rfl) ?_; dsimp only)); at_builtin; refine Kd.R_append Kd.string (w0 := w) w.heap.size rfl (.tmp 26) (.tmp 28) 33 9 (.string ⟨#[]⟩) 16 rfl Tryz.underlying33 info9 rfl (by decide) (by omega) (.slice Ao9 x4_1.length co9) x4_1 t103 [.string t103] (fun _ => True) (fun _ => False) rfl rfl ?aP (fun _ hk => hk.elim) ?aF ?aO ?aB ?aS ?aL ?_; (case aP => exact rfl); (case aB => exact (by repeat (first | (with_reducible first | exact HB.out | apply below_alloc | apply pw_below_drewN | apply below_drew1) | exact HB.out))); (case aF => exact (fun _ _ => trivial)); (case aO => exact (by (with_reducible repeat (first | apply Kd.R_alloc | apply Kd.R_drewN | apply Kd.R_drew)); exact HO_4.out)); (case aS => exact (below_size (by repeat (first | (with_reducible first | exact HB.out | apply below_alloc | apply pw_below_drewN | apply below_drew1) | exact HB.out)))); (case aL => have := LMc8.out; omega); intro v107 w10 ho hb hg hat; rw [← Ny106.out] at ho; have n0_ := Aside0.mk (hb); have n1_ := Aside0.mk (ho); clear HB; clear HO_4; have HB := n0_; have HO108 := n1_; clear n0_ n1_; clear ho hb hg hat))
                go_roundg k1
                case measure => have := HK1.out; omega
                case rel => exact ⟨(t104), (y106), (by first | rfl | (simp; done) | (simp [*]; done)), H', ⟨by have := HK1.out; omega⟩, ⟨by (with_reducible repeat (first | apply Kd.R_alloc | apply Kd.R_drewN | apply Kd.R_drew)); exact HO108.out⟩, ⟨by repeat (first | (with_reducible first | exact HB.out | apply below_alloc | apply pw_below_drewN | apply below_drew1) | exact HB.out)⟩⟩
              · rw [if_neg c8] at H
                exact absurd H (by simp)
          · rw [if_neg c5] at H
            have c5b0 : (t105 == 0) = false := beq_eq_false_iff_ne.mpr c5
            have c5b1 : (t105 != 0) = true := bne_iff_ne.mpr c5
            simp only [Option.some.injEq, Prod.mk.injEq] at H
            obtain ⟨rfl, rfl⟩ := H
            go_wp2_with (first | ((with_reducible refine gate_callee (f := 69) rfl ?_); refine goesL_ (some 15) rfl rfl Tryz.func69 (by kernel_rfl) rfl #[.string x0_1] rfl (by (try simp only [List.map_toArray, List.map_cons, List.map_nil]); first | done | rfl | (simp only [List.length_drop, List.length_take]; rfl)) ?_; (with_reducible refine (furlongref01_First.calls k1 x0_1 t103 t104 t105 _ A4.out).mono ?_); rintro e w' ⟨rfl, ⟨nd, rfl⟩⟩; refine ⟨_, rfl, ?_⟩))
            go_ret2
            exact ⟨_, by first | rfl | (simp [errW_none, errW_some] <;> rfl) | (simp [*, errW_none, errW_some] <;> rfl), by first | exact Kd.R_nil _ _ _ _ _ | exact Kd.N_nil _ _ _ _ _ | exact Kd.V_nil _ _ _ _ _ | exact Kd.Q_nil _ _ _ _ _ | exact Kd.S_nil _ _ _ _ _, by repeat (first | (with_reducible first | exact HB.out | apply below_alloc | apply pw_below_drewN | apply below_drew1) | exact HB.out)⟩

/-! ### furlongref01_Int: function 72: given -/
def furlongref01_Int.f (a0 : ByteArray) : Option (Int × Int) := if a0.size ≤ 281474976710656 then some (rintF (bsL a0)) else none
theorem furlongref01_Int.calls (a0 : ByteArray) (r1 : Int) (r2 : Int) (w : World) (h : furlongref01_Int.f a0 = some (r1, r2)) :
    Calls Tryz.prog 72 #[.string a0] w fun e w' => e = .returned (.tuple #[.int .i64 r1, .int .i64 r2]) ∧ Below w.heap.size w w' := by
  unfold furlongref01_Int.f at h
  split at h
  · rename_i hc
    have h2 := Option.some.inj h
    have h3 := rint_any a0 hc w
    rw [h2] at h3
    exact h3
  · cases h


/-! ### furlongref04_page: function 55 -/
def furlongref04_page.f (k : Nat) (a0 : ByteArray) (a1 : ByteArray) : Option (Int × ByteArray × ByteArray × Bool) := (furlongref01_First.f k a1).bind fun bt109 => (if bt109.2.2 = 0 then ((furlongref01_Open.f k bt109.1).bind fun bt112 => (if bt112.2 = 0 then ((furlongref01_Untie.f k bt112.1).bind fun bt114 => (if bt114.2 = 0 then (if (bt114.1.length : Int) = 3 then (if 0 < (bt114.1.length : Int) then (if (rdOf ByteArray.empty bt114.1 0).toList = a0.toList then (if 2 < (bt114.1.length : Int) then (if ((rdOf ByteArray.empty bt114.1 2).size : Int) > 524288 then (some (0, (⟨#[]⟩ : ByteArray), (⟨#[]⟩ : ByteArray), false)) else (if 1 < (bt114.1.length : Int) then ((furlongref01_Int.f (rdOf ByteArray.empty bt114.1 1)).bind fun bt121 => (some (bt121.1, rdOf ByteArray.empty bt114.1 2, bt109.2.1, (bt121.2 == 0)))) else (none))) else (none)) else (some (0, (⟨#[]⟩ : ByteArray), (⟨#[]⟩ : ByteArray), false))) else (none)) else (some (0, (⟨#[]⟩ : ByteArray), (⟨#[]⟩ : ByteArray), false))) else (some (0, (⟨#[]⟩ : ByteArray), (⟨#[]⟩ : ByteArray), false)))) else (some (0, (⟨#[]⟩ : ByteArray), (⟨#[]⟩ : ByteArray), false)))) else (some (0, (⟨#[]⟩ : ByteArray), (⟨#[]⟩ : ByteArray), false)))
theorem furlongref04_page.mono : ∀ a0 a1 k, LeO (furlongref04_page.f k a0 a1) (furlongref04_page.f (k + 1) a0 a1) := by
  intro a0 a1 k
  unfold furlongref04_page.f
  repeat' first
      | (with_reducible exact furlongref01_First.mono _ _)
      | (with_reducible exact furlongref01_Open.mono _ _)
      | (with_reducible exact furlongref01_Untie.mono _ _)
      | (with_reducible exact LeO.refl _)
      | (with_reducible exact LeO.none _)
      | (with_reducible refine LeO.ite ?_ ?_)
      | (with_reducible refine LeO.bind ?_ (fun _ => ?_))
      | exact furlongref01_First.mono _ _
      | exact furlongref01_Open.mono _ _
      | exact furlongref01_Untie.mono _ _
      | exact LeO.none _
      | refine LeO.ite ?_ ?_
      | refine LeO.bind ?_ (fun _ => ?_)
set_option maxHeartbeats 8000000 in
set_option maxRecDepth 100000 in
theorem furlongref04_page.calls (k : Nat) (a0 : ByteArray) (a1 : ByteArray) (r1 : Int) (r2 : ByteArray) (r3 : ByteArray) (r4 : Bool) (w : World) (h : furlongref04_page.f k a0 a1 = some (r1, r2, r3, r4)) :
    Calls Tryz.prog 55 #[.string a0, .string a1] w fun e w' => e = .returned (.tuple #[.int .i64 r1, .string r2, .string r3, .bool r4]) ∧ Below w.heap.size w w' := by
  have HB := Aside0.mk (Below.refl w.heap.size w)
  have H : ((furlongref01_First.f k a1).bind fun bt109 => (if bt109.2.2 = 0 then ((furlongref01_Open.f k bt109.1).bind fun bt112 => (if bt112.2 = 0 then ((furlongref01_Untie.f k bt112.1).bind fun bt114 => (if bt114.2 = 0 then (if (bt114.1.length : Int) = 3 then (if 0 < (bt114.1.length : Int) then (if (rdOf ByteArray.empty bt114.1 0).toList = a0.toList then (if 2 < (bt114.1.length : Int) then (if ((rdOf ByteArray.empty bt114.1 2).size : Int) > 524288 then (some (0, (⟨#[]⟩ : ByteArray), (⟨#[]⟩ : ByteArray), false)) else (if 1 < (bt114.1.length : Int) then ((furlongref01_Int.f (rdOf ByteArray.empty bt114.1 1)).bind fun bt121 => (some (bt121.1, rdOf ByteArray.empty bt114.1 2, bt109.2.1, (bt121.2 == 0)))) else (none))) else (none)) else (some (0, (⟨#[]⟩ : ByteArray), (⟨#[]⟩ : ByteArray), false))) else (none)) else (some (0, (⟨#[]⟩ : ByteArray), (⟨#[]⟩ : ByteArray), false))) else (some (0, (⟨#[]⟩ : ByteArray), (⟨#[]⟩ : ByteArray), false)))) else (some (0, (⟨#[]⟩ : ByteArray), (⟨#[]⟩ : ByteArray), false)))) else (some (0, (⟨#[]⟩ : ByteArray), (⟨#[]⟩ : ByteArray), false)))) = some (r1, r2, r3, r4) := h
  clear h
  replace H := Option.bind_eq_some_iff.mp H
  obtain ⟨⟨t109, t110, t111⟩, A30, H⟩ := H
  replace H : (if t111 = 0 then ((furlongref01_Open.f k t109).bind fun bt112 => (if bt112.2 = 0 then ((furlongref01_Untie.f k bt112.1).bind fun bt114 => (if bt114.2 = 0 then (if (bt114.1.length : Int) = 3 then (if 0 < (bt114.1.length : Int) then (if (rdOf ByteArray.empty bt114.1 0).toList = a0.toList then (if 2 < (bt114.1.length : Int) then (if ((rdOf ByteArray.empty bt114.1 2).size : Int) > 524288 then (some (0, (⟨#[]⟩ : ByteArray), (⟨#[]⟩ : ByteArray), false)) else (if 1 < (bt114.1.length : Int) then ((furlongref01_Int.f (rdOf ByteArray.empty bt114.1 1)).bind fun bt121 => (some (bt121.1, rdOf ByteArray.empty bt114.1 2, t110, (bt121.2 == 0)))) else (none))) else (none)) else (some (0, (⟨#[]⟩ : ByteArray), (⟨#[]⟩ : ByteArray), false))) else (none)) else (some (0, (⟨#[]⟩ : ByteArray), (⟨#[]⟩ : ByteArray), false))) else (some (0, (⟨#[]⟩ : ByteArray), (⟨#[]⟩ : ByteArray), false)))) else (some (0, (⟨#[]⟩ : ByteArray), (⟨#[]⟩ : ByteArray), false)))) else (some (0, (⟨#[]⟩ : ByteArray), (⟨#[]⟩ : ByteArray), false))) = some (r1, r2, r3, r4) := H
  have A3 := Aside0.mk A30
  clear A30
  by_cases c4 : t111 = 0
  · rw [if_pos c4] at H
    have c4b0 : (t111 == 0) = true := beq_iff_eq.mpr c4
    have c4b1 : (t111 != 0) = false := bne_eq_false_iff_eq.mpr c4
    clear c4
    replace H := Option.bind_eq_some_iff.mp H
    obtain ⟨⟨t112, t113⟩, A50, H⟩ := H
    replace H : (if t113 = 0 then ((furlongref01_Untie.f k t112).bind fun bt114 => (if bt114.2 = 0 then (if (bt114.1.length : Int) = 3 then (if 0 < (bt114.1.length : Int) then (if (rdOf ByteArray.empty bt114.1 0).toList = a0.toList then (if 2 < (bt114.1.length : Int) then (if ((rdOf ByteArray.empty bt114.1 2).size : Int) > 524288 then (some (0, (⟨#[]⟩ : ByteArray), (⟨#[]⟩ : ByteArray), false)) else (if 1 < (bt114.1.length : Int) then ((furlongref01_Int.f (rdOf ByteArray.empty bt114.1 1)).bind fun bt121 => (some (bt121.1, rdOf ByteArray.empty bt114.1 2, t110, (bt121.2 == 0)))) else (none))) else (none)) else (some (0, (⟨#[]⟩ : ByteArray), (⟨#[]⟩ : ByteArray), false))) else (none)) else (some (0, (⟨#[]⟩ : ByteArray), (⟨#[]⟩ : ByteArray), false))) else (some (0, (⟨#[]⟩ : ByteArray), (⟨#[]⟩ : ByteArray), false)))) else (some (0, (⟨#[]⟩ : ByteArray), (⟨#[]⟩ : ByteArray), false))) = some (r1, r2, r3, r4) := H
    have A5 := Aside0.mk A50
    clear A50
    by_cases c6 : t113 = 0
    · rw [if_pos c6] at H
      have c6b0 : (t113 == 0) = true := beq_iff_eq.mpr c6
      have c6b1 : (t113 != 0) = false := bne_eq_false_iff_eq.mpr c6
      clear c6
      replace H := Option.bind_eq_some_iff.mp H
      obtain ⟨⟨t114, t115⟩, A70, H⟩ := H
      replace H : (if t115 = 0 then (if (t114.length : Int) = 3 then (if 0 < (t114.length : Int) then (if (rdOf ByteArray.empty t114 0).toList = a0.toList then (if 2 < (t114.length : Int) then (if ((rdOf ByteArray.empty t114 2).size : Int) > 524288 then (some (0, (⟨#[]⟩ : ByteArray), (⟨#[]⟩ : ByteArray), false)) else (if 1 < (t114.length : Int) then ((furlongref01_Int.f (rdOf ByteArray.empty t114 1)).bind fun bt121 => (some (bt121.1, rdOf ByteArray.empty t114 2, t110, (bt121.2 == 0)))) else (none))) else (none)) else (some (0, (⟨#[]⟩ : ByteArray), (⟨#[]⟩ : ByteArray), false))) else (none)) else (some (0, (⟨#[]⟩ : ByteArray), (⟨#[]⟩ : ByteArray), false))) else (some (0, (⟨#[]⟩ : ByteArray), (⟨#[]⟩ : ByteArray), false))) = some (r1, r2, r3, r4) := H
      have A7 := Aside0.mk A70
      clear A70
      by_cases c8 : t115 = 0
      · rw [if_pos c8] at H
        have c8b0 : (t115 == 0) = true := beq_iff_eq.mpr c8
        have c8b1 : (t115 != 0) = false := bne_eq_false_iff_eq.mpr c8
        clear c8
        by_cases c9 : (t114.length : Int) = 3
        · rw [if_pos c9] at H
          have c9b0 : ((t114.length : Int) == 3) = true := beq_iff_eq.mpr c9
          have c9b1 : ((t114.length : Int) != 3) = false := bne_eq_false_iff_eq.mpr c9
          clear c9
          by_cases c10 : 0 < (t114.length : Int)
          · rw [if_pos c10] at H
            have c10b0 : decide (0 < (t114.length : Int)) = true := decide_eq_true c10
            have c10b1 : decide (0 < t114.length) = true := decide_eq_true (by omega)
            clear c10
            by_cases c11 : (rdOf ByteArray.empty t114 0).toList = a0.toList
            · rw [if_pos c11] at H
              have c11b0 : ((rdOf ByteArray.empty t114 0).toList == a0.toList) = true := beq_iff_eq.mpr c11
              have c11b1 : ((rdOf ByteArray.empty t114 0).toList != a0.toList) = false := bne_eq_false_iff_eq.mpr c11
              clear c11
              by_cases c12 : 2 < (t114.length : Int)
              · rw [if_pos c12] at H
                have c12b0 : decide (2 < (t114.length : Int)) = true := decide_eq_true c12
                have c12b1 : decide (2 < t114.length) = true := decide_eq_true (by omega)
                clear c12
                by_cases c13 : ((rdOf ByteArray.empty t114 2).size : Int) > 524288
                · rw [if_pos c13] at H
                  have c13b0 : decide (524288 < ((rdOf ByteArray.empty t114 2).size : Int)) = true := decide_eq_true c13
                  have c13b1 : decide (524288 < (rdOf ByteArray.empty t114 2).size) = true := decide_eq_true (by omega)
                  clear c13
                  simp only [Option.some.injEq, Prod.mk.injEq] at H
                  obtain ⟨rfl, rfl, rfl, rfl⟩ := H
                  go_enter Tryz.func55, Tryz.ntmps55
                  go_wp2_with (first | (go_at_call 69; (with_reducible refine (furlongref01_First.calls k a1 t109 t110 t111 _ A3.out).mono ?_); rintro e w' ⟨rfl, ⟨nd, rfl⟩⟩; (try first | exact ⟨rfl, _, World.drewN_drewN _ _ _⟩ | exact ⟨rfl, _, Eq.trans (World.drewN_drewN _ _ _) (congrArg (World.drewN _) (Nat.add_assoc _ _ _))⟩)) | (go_at_call 70; (with_reducible refine (furlongref01_Open.calls k t109 t112 t113 _ A5.out).mono ?_); rintro e w' ⟨rfl, ⟨nd, rfl⟩⟩; (try first | exact ⟨rfl, _, World.drewN_drewN _ _ _⟩ | exact ⟨rfl, _, Eq.trans (World.drewN_drewN _ _ _) (congrArg (World.drewN _) (Nat.add_assoc _ _ _))⟩)) | (go_at_call 71; (with_reducible refine (furlongref01_Untie.calls k t112 t114 t115 _ A7.out).mono ?_); rintro e w14 ⟨v116, rfl, ho0, hb⟩; have n0_ := Aside0.mk (Kd.R_lower ho0 (below_size (by repeat (first | (with_reducible first | exact HB.out | apply below_alloc | apply pw_below_drewN | apply below_drew1) | exact HB.out)))); have n1_ := Aside0.mk (below_step (by repeat (first | (with_reducible first | exact HB.out | apply below_alloc | apply pw_below_drewN | apply below_drew1) | exact HB.out)) hb); clear HB; have HO117 := n0_; have HB := n1_; clear n0_ n1_; (try clear hb); (try clear hb2); (try clear hk); (try clear hi); (try clear ho0); obtain ⟨Ao15, co15, eo15⟩ := Kd.R_slice HO117.out; subst eo15; have p118 : 0 ≤ (0 : Int) := (by omega); have q118 : 0 < (t114.length : Int) := of_decide_eq_true (by first | (with_reducible assumption) | assumption); obtain ⟨ad118, e118, hx118_0⟩ := Kd.at_string (Kd.R_reads' HO117.out).2.2 0 p118 q118; cases e118; have qi118 : (0 < t114.length) = True := eq_true (by omega); (try rw [show ((0 : Int)).toNat = 0 from rfl] at hx118_0); (try rw [Addr.add_zero'] at hx118_0); replace p118 := eq_true p118; replace q118 := eq_true q118; have p119 : 0 ≤ (2 : Int) := (by omega); have q119 : 2 < (t114.length : Int) := of_decide_eq_true (by first | (with_reducible assumption) | assumption); obtain ⟨ad119, e119, hx119_0⟩ := Kd.at_string (Kd.R_reads' HO117.out).2.2 2 p119 q119; obtain rfl : ad118 = ad119 := (by injection e119); (try simp only [show (2 : Int).toNat = 2 from rfl, Nat.reduceMul, Nat.reduceEqDiff, Go.Addr.add, ↓reduceIte] at hx119_0); have qi119 : (2 < t114.length) = True := eq_true (by omega); (try rw [show ((2 : Int)).toNat = 2 from rfl] at hx119_0); replace p119 := eq_true p119; replace q119 := eq_true q119))
                  repeat (go_quiet (first | (go_at_call 69; (with_reducible refine (furlongref01_First.calls k a1 t109 t110 t111 _ A3.out).mono ?_); rintro e w' ⟨rfl, ⟨nd, rfl⟩⟩; (try first | exact ⟨rfl, _, World.drewN_drewN _ _ _⟩ | exact ⟨rfl, _, Eq.trans (World.drewN_drewN _ _ _) (congrArg (World.drewN _) (Nat.add_assoc _ _ _))⟩)) | (go_at_call 70; (with_reducible refine (furlongref01_Open.calls k t109 t112 t113 _ A5.out).mono ?_); rintro e w' ⟨rfl, ⟨nd, rfl⟩⟩; (try first | exact ⟨rfl, _, World.drewN_drewN _ _ _⟩ | exact ⟨rfl, _, Eq.trans (World.drewN_drewN _ _ _) (congrArg (World.drewN _) (Nat.add_assoc _ _ _))⟩)) | (go_at_call 71; (with_reducible refine (furlongref01_Untie.calls k t112 t114 t115 _ A7.out).mono ?_); rintro e w14 ⟨v116, rfl, ho0, hb⟩; have n0_ := Aside0.mk (Kd.R_lower ho0 (below_size (by repeat (first | (with_reducible first | exact HB.out | apply below_alloc | apply pw_below_drewN | apply below_drew1) | exact HB.out)))); have n1_ := Aside0.mk (below_step (by repeat (first | (with_reducible first | exact HB.out | apply below_alloc | apply pw_below_drewN | apply below_drew1) | exact HB.out)) hb); clear HB; have HO117 := n0_; have HB := n1_; clear n0_ n1_; (try clear hb); (try clear hb2); (try clear hk); (try clear hi); (try clear ho0); obtain ⟨Ao15, co15, eo15⟩ := Kd.R_slice HO117.out; subst eo15; have p118 : 0 ≤ (0 : Int) := (by omega); have q118 : 0 < (t114.length : Int) := of_decide_eq_true (by first | (with_reducible assumption) | assumption); obtain ⟨ad118, e118, hx118_0⟩ := Kd.at_string (Kd.R_reads' HO117.out).2.2 0 p118 q118; cases e118; have qi118 : (0 < t114.length) = True := eq_true (by omega); (try rw [show ((0 : Int)).toNat = 0 from rfl] at hx118_0); (try rw [Addr.add_zero'] at hx118_0); replace p118 := eq_true p118; replace q118 := eq_true q118; have p119 : 0 ≤ (2 : Int) := (by omega); have q119 : 2 < (t114.length : Int) := of_decide_eq_true (by first | (with_reducible assumption) | assumption); obtain ⟨ad119, e119, hx119_0⟩ := Kd.at_string (Kd.R_reads' HO117.out).2.2 2 p119 q119; obtain rfl : ad118 = ad119 := (by injection e119); (try simp only [show (2 : Int).toNat = 2 from rfl, Nat.reduceMul, Nat.reduceEqDiff, Go.Addr.add, ↓reduceIte] at hx119_0); have qi119 : (2 < t114.length) = True := eq_true (by omega); (try rw [show ((2 : Int)).toNat = 2 from rfl] at hx119_0); replace p119 := eq_true p119; replace q119 := eq_true q119)); try go_wp2_with (first | (go_at_call 69; (with_reducible refine (furlongref01_First.calls k a1 t109 t110 t111 _ A3.out).mono ?_); rintro e w' ⟨rfl, ⟨nd, rfl⟩⟩; (try first | exact ⟨rfl, _, World.drewN_drewN _ _ _⟩ | exact ⟨rfl, _, Eq.trans (World.drewN_drewN _ _ _) (congrArg (World.drewN _) (Nat.add_assoc _ _ _))⟩)) | (go_at_call 70; (with_reducible refine (furlongref01_Open.calls k t109 t112 t113 _ A5.out).mono ?_); rintro e w' ⟨rfl, ⟨nd, rfl⟩⟩; (try first | exact ⟨rfl, _, World.drewN_drewN _ _ _⟩ | exact ⟨rfl, _, Eq.trans (World.drewN_drewN _ _ _) (congrArg (World.drewN _) (Nat.add_assoc _ _ _))⟩)) | (go_at_call 71; (with_reducible refine (furlongref01_Untie.calls k t112 t114 t115 _ A7.out).mono ?_); rintro e w14 ⟨v116, rfl, ho0, hb⟩; have n0_ := Aside0.mk (Kd.R_lower ho0 (below_size (by repeat (first | (with_reducible first | exact HB.out | apply below_alloc | apply pw_below_drewN | apply below_drew1) | exact HB.out)))); have n1_ := Aside0.mk (below_step (by repeat (first | (with_reducible first | exact HB.out | apply below_alloc | apply pw_below_drewN | apply below_drew1) | exact HB.out)) hb); clear HB; have HO117 := n0_; have HB := n1_; clear n0_ n1_; (try clear hb); (try clear hb2); (try clear hk); (try clear hi); (try clear ho0); obtain ⟨Ao15, co15, eo15⟩ := Kd.R_slice HO117.out; subst eo15; have p118 : 0 ≤ (0 : Int) := (by omega); have q118 : 0 < (t114.length : Int) := of_decide_eq_true (by first | (with_reducible assumption) | assumption); obtain ⟨ad118, e118, hx118_0⟩ := Kd.at_string (Kd.R_reads' HO117.out).2.2 0 p118 q118; cases e118; have qi118 : (0 < t114.length) = True := eq_true (by omega); (try rw [show ((0 : Int)).toNat = 0 from rfl] at hx118_0); (try rw [Addr.add_zero'] at hx118_0); replace p118 := eq_true p118; replace q118 := eq_true q118; have p119 : 0 ≤ (2 : Int) := (by omega); have q119 : 2 < (t114.length : Int) := of_decide_eq_true (by first | (with_reducible assumption) | assumption); obtain ⟨ad119, e119, hx119_0⟩ := Kd.at_string (Kd.R_reads' HO117.out).2.2 2 p119 q119; obtain rfl : ad118 = ad119 := (by injection e119); (try simp only [show (2 : Int).toNat = 2 from rfl, Nat.reduceMul, Nat.reduceEqDiff, Go.Addr.add, ↓reduceIte] at hx119_0); have qi119 : (2 < t114.length) = True := eq_true (by omega); (try rw [show ((2 : Int)).toNat = 2 from rfl] at hx119_0); replace p119 := eq_true p119; replace q119 := eq_true q119)))
                  refine bodyPost_ret (results_list (rs := [.tmp 4, .tmp 5, .tmp 6, .tmp 7]) rfl (by simp) (.tmp (.tmp (.tmp (.tmp .nil))))) rfl ?_
                  exact ⟨by first | rfl | (simp [errW_none, errW_some] <;> rfl) | (simp [*, errW_none, errW_some] <;> rfl), by repeat (first | (with_reducible first | exact HB.out | apply below_alloc | apply pw_below_drewN | apply below_drew1) | exact HB.out)⟩
                · rw [if_neg c13] at H
                  have c13b0 : decide (524288 < ((rdOf ByteArray.empty t114 2).size : Int)) = false := decide_eq_false c13
                  have c13b1 : decide (524288 < (rdOf ByteArray.empty t114 2).size) = false := decide_eq_false (by omega)
                  clear c13
                  by_cases c16 : 1 < (t114.length : Int)
                  · rw [if_pos c16] at H
                    have c16b0 : decide (1 < (t114.length : Int)) = true := decide_eq_true c16
                    have c16b1 : decide (1 < t114.length) = true := decide_eq_true (by omega)
                    clear c16
                    replace H := Option.bind_eq_some_iff.mp H
                    obtain ⟨⟨t121, t122⟩, A170, H⟩ := H
                    replace H : (some (t121, rdOf ByteArray.empty t114 2, t110, (t122 == 0))) = some (r1, r2, r3, r4) := H
                    have A17 := Aside0.mk A170
                    clear A170
                    simp only [Option.some.injEq, Prod.mk.injEq] at H
                    obtain ⟨rfl, rfl, rfl, rfl⟩ := H
                    go_enter Tryz.func55, Tryz.ntmps55
                    go_wp2_with (first | (go_at_call 69; (with_reducible refine (furlongref01_First.calls k a1 t109 t110 t111 _ A3.out).mono ?_); rintro e w' ⟨rfl, ⟨nd, rfl⟩⟩; (try first | exact ⟨rfl, _, World.drewN_drewN _ _ _⟩ | exact ⟨rfl, _, Eq.trans (World.drewN_drewN _ _ _) (congrArg (World.drewN _) (Nat.add_assoc _ _ _))⟩)) | (go_at_call 70; (with_reducible refine (furlongref01_Open.calls k t109 t112 t113 _ A5.out).mono ?_); rintro e w' ⟨rfl, ⟨nd, rfl⟩⟩; (try first | exact ⟨rfl, _, World.drewN_drewN _ _ _⟩ | exact ⟨rfl, _, Eq.trans (World.drewN_drewN _ _ _) (congrArg (World.drewN _) (Nat.add_assoc _ _ _))⟩)) | (go_at_call 71; (with_reducible refine (furlongref01_Untie.calls k t112 t114 t115 _ A7.out).mono ?_); rintro e w18 ⟨v116, rfl, ho0, hb⟩; have n0_ := Aside0.mk (Kd.R_lower ho0 (below_size (by repeat (first | (with_reducible first | exact HB.out | apply below_alloc | apply pw_below_drewN | apply below_drew1) | exact HB.out)))); have n1_ := Aside0.mk (below_step (by repeat (first | (with_reducible first | exact HB.out | apply below_alloc | apply pw_below_drewN | apply below_drew1) | exact HB.out)) hb); clear HB; have HO117 := n0_; have HB := n1_; clear n0_ n1_; (try clear hb); (try clear hb2); (try clear hk); (try clear hi); (try clear ho0); obtain ⟨Ao19, co19, eo19⟩ := Kd.R_slice HO117.out; subst eo19; have p118 : 0 ≤ (0 : Int) := (by omega); have q118 : 0 < (t114.length : Int) := of_decide_eq_true (by first | (with_reducible assumption) | assumption); obtain ⟨ad118, e118, hx118_0⟩ := Kd.at_string (Kd.R_reads' HO117.out).2.2 0 p118 q118; cases e118; have qi118 : (0 < t114.length) = True := eq_true (by omega); (try rw [show ((0 : Int)).toNat = 0 from rfl] at hx118_0); (try rw [Addr.add_zero'] at hx118_0); replace p118 := eq_true p118; replace q118 := eq_true q118; have p119 : 0 ≤ (2 : Int) := (by omega); have q119 : 2 < (t114.length : Int) := of_decide_eq_true (by first | (with_reducible assumption) | assumption); obtain ⟨ad119, e119, hx119_0⟩ := Kd.at_string (Kd.R_reads' HO117.out).2.2 2 p119 q119; obtain rfl : ad118 = ad119 := (by injection e119); (try simp only [show (2 : Int).toNat = 2 from rfl, Nat.reduceMul, Nat.reduceEqDiff, Go.Addr.add, ↓reduceIte] at hx119_0); have qi119 : (2 < t114.length) = True := eq_true (by omega); (try rw [show ((2 : Int)).toNat = 2 from rfl] at hx119_0); replace p119 := eq_true p119; replace q119 := eq_true q119; have p120 : 0 ≤ (1 : Int) := (by omega); have q120 : 1 < (t114.length : Int) := of_decide_eq_true (by first | (with_reducible assumption) | assumption); obtain ⟨ad120, e120, hx120_0⟩ := Kd.at_string (Kd.R_reads' HO117.out).2.2 1 p120 q120; obtain rfl : ad118 = ad120 := (by injection e120); (try simp only [show (1 : Int).toNat = 1 from rfl, Nat.reduceMul, Nat.reduceEqDiff, Go.Addr.add, ↓reduceIte] at hx120_0); have qi120 : (1 < t114.length) = True := eq_true (by omega); (try rw [show ((1 : Int)).toNat = 1 from rfl] at hx120_0); replace p120 := eq_true p120; replace q120 := eq_true q120) | (go_at_call 72; (with_reducible refine (furlongref01_Int.calls (rdOf ByteArray.empty t114 1) t121 t122 _ A17.out).mono ?_); rintro e w20 ⟨rfl, hb⟩; have n0_ := Aside0.mk (Kd.R_below (by (with_reducible repeat (first | apply Kd.R_alloc | apply Kd.R_drewN | apply Kd.R_drew)); exact HO117.out) hb); have n1_ := Aside0.mk (below_step (by repeat (first | (with_reducible first | exact HB.out | apply below_alloc | apply pw_below_drewN | apply below_drew1) | exact HB.out)) hb); clear HO117; clear HB; have HO117 := n0_; have HB := n1_; clear n0_ n1_; (try clear hb); (try clear hb2); (try clear hk); (try clear hi); have p123 : 0 ≤ (2 : Int) := (by omega); have q123 : 2 < (t114.length : Int) := of_decide_eq_true (by first | (with_reducible assumption) | assumption); obtain ⟨ad123, e123, hx123_0⟩ := Kd.at_string (Kd.R_reads' HO117.out).2.2 2 p123 q123; obtain rfl : ad118 = ad123 := (by injection e123); (try simp only [show (2 : Int).toNat = 2 from rfl, Nat.reduceMul, Nat.reduceEqDiff, Go.Addr.add, ↓reduceIte] at hx123_0); have qi123 : (2 < t114.length) = True := eq_true (by omega); (try rw [show ((2 : Int)).toNat = 2 from rfl] at hx123_0); replace p123 := eq_true p123; replace q123 := eq_true q123))
                    repeat (go_quiet (first | (go_at_call 69; (with_reducible refine (furlongref01_First.calls k a1 t109 t110 t111 _ A3.out).mono ?_); rintro e w' ⟨rfl, ⟨nd, rfl⟩⟩; (try first | exact ⟨rfl, _, World.drewN_drewN _ _ _⟩ | exact ⟨rfl, _, Eq.trans (World.drewN_drewN _ _ _) (congrArg (World.drewN _) (Nat.add_assoc _ _ _))⟩)) | (go_at_call 70; (with_reducible refine (furlongref01_Open.calls k t109 t112 t113 _ A5.out).mono ?_); rintro e w' ⟨rfl, ⟨nd, rfl⟩⟩; (try first | exact ⟨rfl, _, World.drewN_drewN _ _ _⟩ | exact ⟨rfl, _, Eq.trans (World.drewN_drewN _ _ _) (congrArg (World.drewN _) (Nat.add_assoc _ _ _))⟩)) | (go_at_call 71; (with_reducible refine (furlongref01_Untie.calls k t112 t114 t115 _ A7.out).mono ?_); rintro e w18 ⟨v116, rfl, ho0, hb⟩; have n0_ := Aside0.mk (Kd.R_lower ho0 (below_size (by repeat (first | (with_reducible first | exact HB.out | apply below_alloc | apply pw_below_drewN | apply below_drew1) | exact HB.out)))); have n1_ := Aside0.mk (below_step (by repeat (first | (with_reducible first | exact HB.out | apply below_alloc | apply pw_below_drewN | apply below_drew1) | exact HB.out)) hb); clear HB; have HO117 := n0_; have HB := n1_; clear n0_ n1_; (try clear hb); (try clear hb2); (try clear hk); (try clear hi); (try clear ho0); obtain ⟨Ao19, co19, eo19⟩ := Kd.R_slice HO117.out; subst eo19; have p118 : 0 ≤ (0 : Int) := (by omega); have q118 : 0 < (t114.length : Int) := of_decide_eq_true (by first | (with_reducible assumption) | assumption); obtain ⟨ad118, e118, hx118_0⟩ := Kd.at_string (Kd.R_reads' HO117.out).2.2 0 p118 q118; cases e118; have qi118 : (0 < t114.length) = True := eq_true (by omega); (try rw [show ((0 : Int)).toNat = 0 from rfl] at hx118_0); (try rw [Addr.add_zero'] at hx118_0); replace p118 := eq_true p118; replace q118 := eq_true q118; have p119 : 0 ≤ (2 : Int) := (by omega); have q119 : 2 < (t114.length : Int) := of_decide_eq_true (by first | (with_reducible assumption) | assumption); obtain ⟨ad119, e119, hx119_0⟩ := Kd.at_string (Kd.R_reads' HO117.out).2.2 2 p119 q119; obtain rfl : ad118 = ad119 := (by injection e119); (try simp only [show (2 : Int).toNat = 2 from rfl, Nat.reduceMul, Nat.reduceEqDiff, Go.Addr.add, ↓reduceIte] at hx119_0); have qi119 : (2 < t114.length) = True := eq_true (by omega); (try rw [show ((2 : Int)).toNat = 2 from rfl] at hx119_0); replace p119 := eq_true p119; replace q119 := eq_true q119; have p120 : 0 ≤ (1 : Int) := (by omega); have q120 : 1 < (t114.length : Int) := of_decide_eq_true (by first | (with_reducible assumption) | assumption); obtain ⟨ad120, e120, hx120_0⟩ := Kd.at_string (Kd.R_reads' HO117.out).2.2 1 p120 q120; obtain rfl : ad118 = ad120 := (by injection e120); (try simp only [show (1 : Int).toNat = 1 from rfl, Nat.reduceMul, Nat.reduceEqDiff, Go.Addr.add, ↓reduceIte] at hx120_0); have qi120 : (1 < t114.length) = True := eq_true (by omega); (try rw [show ((1 : Int)).toNat = 1 from rfl] at hx120_0); replace p120 := eq_true p120; replace q120 := eq_true q120) | (go_at_call 72; (with_reducible refine (furlongref01_Int.calls (rdOf ByteArray.empty t114 1) t121 t122 _ A17.out).mono ?_); rintro e w20 ⟨rfl, hb⟩; have n0_ := Aside0.mk (Kd.R_below (by (with_reducible repeat (first | apply Kd.R_alloc | apply Kd.R_drewN | apply Kd.R_drew)); exact HO117.out) hb); have n1_ := Aside0.mk (below_step (by repeat (first | (with_reducible first | exact HB.out | apply below_alloc | apply pw_below_drewN | apply below_drew1) | exact HB.out)) hb); clear HO117; clear HB; have HO117 := n0_; have HB := n1_; clear n0_ n1_; (try clear hb); (try clear hb2); (try clear hk); (try clear hi); have p123 : 0 ≤ (2 : Int) := (by omega); have q123 : 2 < (t114.length : Int) := of_decide_eq_true (by first | (with_reducible assumption) | assumption); obtain ⟨ad123, e123, hx123_0⟩ := Kd.at_string (Kd.R_reads' HO117.out).2.2 2 p123 q123; obtain rfl : ad118 = ad123 := (by injection e123); (try simp only [show (2 : Int).toNat = 2 from rfl, Nat.reduceMul, Nat.reduceEqDiff, Go.Addr.add, ↓reduceIte] at hx123_0); have qi123 : (2 < t114.length) = True := eq_true (by omega); (try rw [show ((2 : Int)).toNat = 2 from rfl] at hx123_0); replace p123 := eq_true p123; replace q123 := eq_true q123)); try go_wp2_with (first | (go_at_call 69; (with_reducible refine (furlongref01_First.calls k a1 t109 t110 t111 _ A3.out).mono ?_); rintro e w' ⟨rfl, ⟨nd, rfl⟩⟩; (try first | exact ⟨rfl, _, World.drewN_drewN _ _ _⟩ | exact ⟨rfl, _, Eq.trans (World.drewN_drewN _ _ _) (congrArg (World.drewN _) (Nat.add_assoc _ _ _))⟩)) | (go_at_call 70; (with_reducible refine (furlongref01_Open.calls k t109 t112 t113 _ A5.out).mono ?_); rintro e w' ⟨rfl, ⟨nd, rfl⟩⟩; (try first | exact ⟨rfl, _, World.drewN_drewN _ _ _⟩ | exact ⟨rfl, _, Eq.trans (World.drewN_drewN _ _ _) (congrArg (World.drewN _) (Nat.add_assoc _ _ _))⟩)) | (go_at_call 71; (with_reducible refine (furlongref01_Untie.calls k t112 t114 t115 _ A7.out).mono ?_); rintro e w18 ⟨v116, rfl, ho0, hb⟩; have n0_ := Aside0.mk (Kd.R_lower ho0 (below_size (by repeat (first | (with_reducible first | exact HB.out | apply below_alloc | apply pw_below_drewN | apply below_drew1) | exact HB.out)))); have n1_ := Aside0.mk (below_step (by repeat (first | (with_reducible first | exact HB.out | apply below_alloc | apply pw_below_drewN | apply below_drew1) | exact HB.out)) hb); clear HB; have HO117 := n0_; have HB := n1_; clear n0_ n1_; (try clear hb); (try clear hb2); (try clear hk); (try clear hi); (try clear ho0); obtain ⟨Ao19, co19, eo19⟩ := Kd.R_slice HO117.out; subst eo19; have p118 : 0 ≤ (0 : Int) := (by omega); have q118 : 0 < (t114.length : Int) := of_decide_eq_true (by first | (with_reducible assumption) | assumption); obtain ⟨ad118, e118, hx118_0⟩ := Kd.at_string (Kd.R_reads' HO117.out).2.2 0 p118 q118; cases e118; have qi118 : (0 < t114.length) = True := eq_true (by omega); (try rw [show ((0 : Int)).toNat = 0 from rfl] at hx118_0); (try rw [Addr.add_zero'] at hx118_0); replace p118 := eq_true p118; replace q118 := eq_true q118; have p119 : 0 ≤ (2 : Int) := (by omega); have q119 : 2 < (t114.length : Int) := of_decide_eq_true (by first | (with_reducible assumption) | assumption); obtain ⟨ad119, e119, hx119_0⟩ := Kd.at_string (Kd.R_reads' HO117.out).2.2 2 p119 q119; obtain rfl : ad118 = ad119 := (by injection e119); (try simp only [show (2 : Int).toNat = 2 from rfl, Nat.reduceMul, Nat.reduceEqDiff, Go.Addr.add, ↓reduceIte] at hx119_0); have qi119 : (2 < t114.length) = True := eq_true (by omega); (try rw [show ((2 : Int)).toNat = 2 from rfl] at hx119_0); replace p119 := eq_true p119; replace q119 := eq_true q119; have p120 : 0 ≤ (1 : Int) := (by omega); have q120 : 1 < (t114.length : Int) := of_decide_eq_true (by first | (with_reducible assumption) | assumption); obtain ⟨ad120, e120, hx120_0⟩ := Kd.at_string (Kd.R_reads' HO117.out).2.2 1 p120 q120; obtain rfl : ad118 = ad120 := (by injection e120); (try simp only [show (1 : Int).toNat = 1 from rfl, Nat.reduceMul, Nat.reduceEqDiff, Go.Addr.add, ↓reduceIte] at hx120_0); have qi120 : (1 < t114.length) = True := eq_true (by omega); (try rw [show ((1 : Int)).toNat = 1 from rfl] at hx120_0); replace p120 := eq_true p120; replace q120 := eq_true q120) | (go_at_call 72; (with_reducible refine (furlongref01_Int.calls (rdOf ByteArray.empty t114 1) t121 t122 _ A17.out).mono ?_); rintro e w20 ⟨rfl, hb⟩; have n0_ := Aside0.mk (Kd.R_below (by (with_reducible repeat (first | apply Kd.R_alloc | apply Kd.R_drewN | apply Kd.R_drew)); exact HO117.out) hb); have n1_ := Aside0.mk (below_step (by repeat (first | (with_reducible first | exact HB.out | apply below_alloc | apply pw_below_drewN | apply below_drew1) | exact HB.out)) hb); clear HO117; clear HB; have HO117 := n0_; have HB := n1_; clear n0_ n1_; (try clear hb); (try clear hb2); (try clear hk); (try clear hi); have p123 : 0 ≤ (2 : Int) := (by omega); have q123 : 2 < (t114.length : Int) := of_decide_eq_true (by first | (with_reducible assumption) | assumption); obtain ⟨ad123, e123, hx123_0⟩ := Kd.at_string (Kd.R_reads' HO117.out).2.2 2 p123 q123; obtain rfl : ad118 = ad123 := (by injection e123); (try simp only [show (2 : Int).toNat = 2 from rfl, Nat.reduceMul, Nat.reduceEqDiff, Go.Addr.add, ↓reduceIte] at hx123_0); have qi123 : (2 < t114.length) = True := eq_true (by omega); (try rw [show ((2 : Int)).toNat = 2 from rfl] at hx123_0); replace p123 := eq_true p123; replace q123 := eq_true q123)))
                    refine bodyPost_ret (results_list (rs := [.tmp 4, .tmp 5, .tmp 6, .tmp 7]) rfl (by simp) (.tmp (.tmp (.tmp (.tmp .nil))))) rfl ?_
                    exact ⟨by first | rfl | (simp [errW_none, errW_some] <;> rfl) | (simp [*, errW_none, errW_some] <;> rfl), by repeat (first | (with_reducible first | exact HB.out | apply below_alloc | apply pw_below_drewN | apply below_drew1) | exact HB.out)⟩
                  · rw [if_neg c16] at H
                    exact absurd H (by simp)
              · rw [if_neg c12] at H
                exact absurd H (by simp)
            · rw [if_neg c11] at H
              have c11b0 : ((rdOf ByteArray.empty t114 0).toList == a0.toList) = false := beq_eq_false_iff_ne.mpr c11
              have c11b1 : ((rdOf ByteArray.empty t114 0).toList != a0.toList) = true := bne_iff_ne.mpr c11
              simp only [Option.some.injEq, Prod.mk.injEq] at H
              obtain ⟨rfl, rfl, rfl, rfl⟩ := H
              go_enter Tryz.func55, Tryz.ntmps55
              go_wp2_with (first | (go_at_call 69; (with_reducible refine (furlongref01_First.calls k a1 t109 t110 t111 _ A3.out).mono ?_); rintro e w' ⟨rfl, ⟨nd, rfl⟩⟩; (try first | exact ⟨rfl, _, World.drewN_drewN _ _ _⟩ | exact ⟨rfl, _, Eq.trans (World.drewN_drewN _ _ _) (congrArg (World.drewN _) (Nat.add_assoc _ _ _))⟩)) | (go_at_call 70; (with_reducible refine (furlongref01_Open.calls k t109 t112 t113 _ A5.out).mono ?_); rintro e w' ⟨rfl, ⟨nd, rfl⟩⟩; (try first | exact ⟨rfl, _, World.drewN_drewN _ _ _⟩ | exact ⟨rfl, _, Eq.trans (World.drewN_drewN _ _ _) (congrArg (World.drewN _) (Nat.add_assoc _ _ _))⟩)) | (go_at_call 71; (with_reducible refine (furlongref01_Untie.calls k t112 t114 t115 _ A7.out).mono ?_); rintro e w21 ⟨v116, rfl, ho0, hb⟩; have n0_ := Aside0.mk (Kd.R_lower ho0 (below_size (by repeat (first | (with_reducible first | exact HB.out | apply below_alloc | apply pw_below_drewN | apply below_drew1) | exact HB.out)))); have n1_ := Aside0.mk (below_step (by repeat (first | (with_reducible first | exact HB.out | apply below_alloc | apply pw_below_drewN | apply below_drew1) | exact HB.out)) hb); clear HB; have HO117 := n0_; have HB := n1_; clear n0_ n1_; (try clear hb); (try clear hb2); (try clear hk); (try clear hi); (try clear ho0); obtain ⟨Ao22, co22, eo22⟩ := Kd.R_slice HO117.out; subst eo22; have p118 : 0 ≤ (0 : Int) := (by omega); have q118 : 0 < (t114.length : Int) := of_decide_eq_true (by first | (with_reducible assumption) | assumption); obtain ⟨ad118, e118, hx118_0⟩ := Kd.at_string (Kd.R_reads' HO117.out).2.2 0 p118 q118; cases e118; have qi118 : (0 < t114.length) = True := eq_true (by omega); (try rw [show ((0 : Int)).toNat = 0 from rfl] at hx118_0); (try rw [Addr.add_zero'] at hx118_0); replace p118 := eq_true p118; replace q118 := eq_true q118))
              repeat (go_quiet (first | (go_at_call 69; (with_reducible refine (furlongref01_First.calls k a1 t109 t110 t111 _ A3.out).mono ?_); rintro e w' ⟨rfl, ⟨nd, rfl⟩⟩; (try first | exact ⟨rfl, _, World.drewN_drewN _ _ _⟩ | exact ⟨rfl, _, Eq.trans (World.drewN_drewN _ _ _) (congrArg (World.drewN _) (Nat.add_assoc _ _ _))⟩)) | (go_at_call 70; (with_reducible refine (furlongref01_Open.calls k t109 t112 t113 _ A5.out).mono ?_); rintro e w' ⟨rfl, ⟨nd, rfl⟩⟩; (try first | exact ⟨rfl, _, World.drewN_drewN _ _ _⟩ | exact ⟨rfl, _, Eq.trans (World.drewN_drewN _ _ _) (congrArg (World.drewN _) (Nat.add_assoc _ _ _))⟩)) | (go_at_call 71; (with_reducible refine (furlongref01_Untie.calls k t112 t114 t115 _ A7.out).mono ?_); rintro e w21 ⟨v116, rfl, ho0, hb⟩; have n0_ := Aside0.mk (Kd.R_lower ho0 (below_size (by repeat (first | (with_reducible first | exact HB.out | apply below_alloc | apply pw_below_drewN | apply below_drew1) | exact HB.out)))); have n1_ := Aside0.mk (below_step (by repeat (first | (with_reducible first | exact HB.out | apply below_alloc | apply pw_below_drewN | apply below_drew1) | exact HB.out)) hb); clear HB; have HO117 := n0_; have HB := n1_; clear n0_ n1_; (try clear hb); (try clear hb2); (try clear hk); (try clear hi); (try clear ho0); obtain ⟨Ao22, co22, eo22⟩ := Kd.R_slice HO117.out; subst eo22; have p118 : 0 ≤ (0 : Int) := (by omega); have q118 : 0 < (t114.length : Int) := of_decide_eq_true (by first | (with_reducible assumption) | assumption); obtain ⟨ad118, e118, hx118_0⟩ := Kd.at_string (Kd.R_reads' HO117.out).2.2 0 p118 q118; cases e118; have qi118 : (0 < t114.length) = True := eq_true (by omega); (try rw [show ((0 : Int)).toNat = 0 from rfl] at hx118_0); (try rw [Addr.add_zero'] at hx118_0); replace p118 := eq_true p118; replace q118 := eq_true q118)); try go_wp2_with (first | (go_at_call 69; (with_reducible refine (furlongref01_First.calls k a1 t109 t110 t111 _ A3.out).mono ?_); rintro e w' ⟨rfl, ⟨nd, rfl⟩⟩; (try first | exact ⟨rfl, _, World.drewN_drewN _ _ _⟩ | exact ⟨rfl, _, Eq.trans (World.drewN_drewN _ _ _) (congrArg (World.drewN _) (Nat.add_assoc _ _ _))⟩)) | (go_at_call 70; (with_reducible refine (furlongref01_Open.calls k t109 t112 t113 _ A5.out).mono ?_); rintro e w' ⟨rfl, ⟨nd, rfl⟩⟩; (try first | exact ⟨rfl, _, World.drewN_drewN _ _ _⟩ | exact ⟨rfl, _, Eq.trans (World.drewN_drewN _ _ _) (congrArg (World.drewN _) (Nat.add_assoc _ _ _))⟩)) | (go_at_call 71; (with_reducible refine (furlongref01_Untie.calls k t112 t114 t115 _ A7.out).mono ?_); rintro e w21 ⟨v116, rfl, ho0, hb⟩; have n0_ := Aside0.mk (Kd.R_lower ho0 (below_size (by repeat (first | (with_reducible first | exact HB.out | apply below_alloc | apply pw_below_drewN | apply below_drew1) | exact HB.out)))); have n1_ := Aside0.mk (below_step (by repeat (first | (with_reducible first | exact HB.out | apply below_alloc | apply pw_below_drewN | apply below_drew1) | exact HB.out)) hb); clear HB; have HO117 := n0_; have HB := n1_; clear n0_ n1_; (try clear hb); (try clear hb2); (try clear hk); (try clear hi); (try clear ho0); obtain ⟨Ao22, co22, eo22⟩ := Kd.R_slice HO117.out; subst eo22; have p118 : 0 ≤ (0 : Int) := (by omega); have q118 : 0 < (t114.length : Int) := of_decide_eq_true (by first | (with_reducible assumption) | assumption); obtain ⟨ad118, e118, hx118_0⟩ := Kd.at_string (Kd.R_reads' HO117.out).2.2 0 p118 q118; cases e118; have qi118 : (0 < t114.length) = True := eq_true (by omega); (try rw [show ((0 : Int)).toNat = 0 from rfl] at hx118_0); (try rw [Addr.add_zero'] at hx118_0); replace p118 := eq_true p118; replace q118 := eq_true q118)))
              refine bodyPost_ret (results_list (rs := [.tmp 4, .tmp 5, .tmp 6, .tmp 7]) rfl (by simp) (.tmp (.tmp (.tmp (.tmp .nil))))) rfl ?_
              exact ⟨by first | rfl | (simp [errW_none, errW_some] <;> rfl) | (simp [*, errW_none, errW_some] <;> rfl), by repeat (first | (with_reducible first | exact HB.out | apply below_alloc | apply pw_below_drewN | apply below_drew1) | exact HB.out)⟩
          · rw [if_neg c10] at H
            exact absurd H (by simp)
        · rw [if_neg c9] at H
          have c9b0 : ((t114.length : Int) == 3) = false := beq_eq_false_iff_ne.mpr c9
          have c9b1 : ((t114.length : Int) != 3) = true := bne_iff_ne.mpr c9
          simp only [Option.some.injEq, Prod.mk.injEq] at H
          obtain ⟨rfl, rfl, rfl, rfl⟩ := H
          go_enter Tryz.func55, Tryz.ntmps55
          go_wp2_with (first | (go_at_call 69; (with_reducible refine (furlongref01_First.calls k a1 t109 t110 t111 _ A3.out).mono ?_); rintro e w' ⟨rfl, ⟨nd, rfl⟩⟩; (try first | exact ⟨rfl, _, World.drewN_drewN _ _ _⟩ | exact ⟨rfl, _, Eq.trans (World.drewN_drewN _ _ _) (congrArg (World.drewN _) (Nat.add_assoc _ _ _))⟩)) | (go_at_call 70; (with_reducible refine (furlongref01_Open.calls k t109 t112 t113 _ A5.out).mono ?_); rintro e w' ⟨rfl, ⟨nd, rfl⟩⟩; (try first | exact ⟨rfl, _, World.drewN_drewN _ _ _⟩ | exact ⟨rfl, _, Eq.trans (World.drewN_drewN _ _ _) (congrArg (World.drewN _) (Nat.add_assoc _ _ _))⟩)) | (go_at_call 71; (with_reducible refine (furlongref01_Untie.calls k t112 t114 t115 _ A7.out).mono ?_); rintro e w23 ⟨v116, rfl, ho0, hb⟩; have n0_ := Aside0.mk (Kd.R_lower ho0 (below_size (by repeat (first | (with_reducible first | exact HB.out | apply below_alloc | apply pw_below_drewN | apply below_drew1) | exact HB.out)))); have n1_ := Aside0.mk (below_step (by repeat (first | (with_reducible first | exact HB.out | apply below_alloc | apply pw_below_drewN | apply below_drew1) | exact HB.out)) hb); clear HB; have HO117 := n0_; have HB := n1_; clear n0_ n1_; (try clear hb); (try clear hb2); (try clear hk); (try clear hi); (try clear ho0); obtain ⟨Ao24, co24, eo24⟩ := Kd.R_slice HO117.out; subst eo24))
          repeat (go_quiet (first | (go_at_call 69; (with_reducible refine (furlongref01_First.calls k a1 t109 t110 t111 _ A3.out).mono ?_); rintro e w' ⟨rfl, ⟨nd, rfl⟩⟩; (try first | exact ⟨rfl, _, World.drewN_drewN _ _ _⟩ | exact ⟨rfl, _, Eq.trans (World.drewN_drewN _ _ _) (congrArg (World.drewN _) (Nat.add_assoc _ _ _))⟩)) | (go_at_call 70; (with_reducible refine (furlongref01_Open.calls k t109 t112 t113 _ A5.out).mono ?_); rintro e w' ⟨rfl, ⟨nd, rfl⟩⟩; (try first | exact ⟨rfl, _, World.drewN_drewN _ _ _⟩ | exact ⟨rfl, _, Eq.trans (World.drewN_drewN _ _ _) (congrArg (World.drewN _) (Nat.add_assoc _ _ _))⟩)) | (go_at_call 71; (with_reducible refine (furlongref01_Untie.calls k t112 t114 t115 _ A7.out).mono ?_); rintro e w23 ⟨v116, rfl, ho0, hb⟩; have n0_ := Aside0.mk (Kd.R_lower ho0 (below_size (by repeat (first | (with_reducible first | exact HB.out | apply below_alloc | apply pw_below_drewN | apply below_drew1) | exact HB.out)))); have n1_ := Aside0.mk (below_step (by repeat (first | (with_reducible first | exact HB.out | apply below_alloc | apply pw_below_drewN | apply below_drew1) | exact HB.out)) hb); clear HB; have HO117 := n0_; have HB := n1_; clear n0_ n1_; (try clear hb); (try clear hb2); (try clear hk); (try clear hi); (try clear ho0); obtain ⟨Ao24, co24, eo24⟩ := Kd.R_slice HO117.out; subst eo24)); try go_wp2_with (first | (go_at_call 69; (with_reducible refine (furlongref01_First.calls k a1 t109 t110 t111 _ A3.out).mono ?_); rintro e w' ⟨rfl, ⟨nd, rfl⟩⟩; (try first | exact ⟨rfl, _, World.drewN_drewN _ _ _⟩ | exact ⟨rfl, _, Eq.trans (World.drewN_drewN _ _ _) (congrArg (World.drewN _) (Nat.add_assoc _ _ _))⟩)) | (go_at_call 70; (with_reducible refine (furlongref01_Open.calls k t109 t112 t113 _ A5.out).mono ?_); rintro e w' ⟨rfl, ⟨nd, rfl⟩⟩; (try first | exact ⟨rfl, _, World.drewN_drewN _ _ _⟩ | exact ⟨rfl, _, Eq.trans (World.drewN_drewN _ _ _) (congrArg (World.drewN _) (Nat.add_assoc _ _ _))⟩)) | (go_at_call 71; (with_reducible refine (furlongref01_Untie.calls k t112 t114 t115 _ A7.out).mono ?_); rintro e w23 ⟨v116, rfl, ho0, hb⟩; have n0_ := Aside0.mk (Kd.R_lower ho0 (below_size (by repeat (first | (with_reducible first | exact HB.out | apply below_alloc | apply pw_below_drewN | apply below_drew1) | exact HB.out)))); have n1_ := Aside0.mk (below_step (by repeat (first | (with_reducible first | exact HB.out | apply below_alloc | apply pw_below_drewN | apply below_drew1) | exact HB.out)) hb); clear HB; have HO117 := n0_; have HB := n1_; clear n0_ n1_; (try clear hb); (try clear hb2); (try clear hk); (try clear hi); (try clear ho0); obtain ⟨Ao24, co24, eo24⟩ := Kd.R_slice HO117.out; subst eo24)))
          refine bodyPost_ret (results_list (rs := [.tmp 4, .tmp 5, .tmp 6, .tmp 7]) rfl (by simp) (.tmp (.tmp (.tmp (.tmp .nil))))) rfl ?_
          exact ⟨by first | rfl | (simp [errW_none, errW_some] <;> rfl) | (simp [*, errW_none, errW_some] <;> rfl), by repeat (first | (with_reducible first | exact HB.out | apply below_alloc | apply pw_below_drewN | apply below_drew1) | exact HB.out)⟩
      · rw [if_neg c8] at H
        have c8b0 : (t115 == 0) = false := beq_eq_false_iff_ne.mpr c8
        have c8b1 : (t115 != 0) = true := bne_iff_ne.mpr c8
        simp only [Option.some.injEq, Prod.mk.injEq] at H
        obtain ⟨rfl, rfl, rfl, rfl⟩ := H
        go_enter Tryz.func55, Tryz.ntmps55
        go_wp2_with (first | (go_at_call 69; (with_reducible refine (furlongref01_First.calls k a1 t109 t110 t111 _ A3.out).mono ?_); rintro e w' ⟨rfl, ⟨nd, rfl⟩⟩; (try first | exact ⟨rfl, _, World.drewN_drewN _ _ _⟩ | exact ⟨rfl, _, Eq.trans (World.drewN_drewN _ _ _) (congrArg (World.drewN _) (Nat.add_assoc _ _ _))⟩)) | (go_at_call 70; (with_reducible refine (furlongref01_Open.calls k t109 t112 t113 _ A5.out).mono ?_); rintro e w' ⟨rfl, ⟨nd, rfl⟩⟩; (try first | exact ⟨rfl, _, World.drewN_drewN _ _ _⟩ | exact ⟨rfl, _, Eq.trans (World.drewN_drewN _ _ _) (congrArg (World.drewN _) (Nat.add_assoc _ _ _))⟩)) | (go_at_call 71; (with_reducible refine (furlongref01_Untie.calls k t112 t114 t115 _ A7.out).mono ?_); rintro e w25 ⟨v116, rfl, ho0, hb⟩; have n0_ := Aside0.mk (Kd.R_lower ho0 (below_size (by repeat (first | (with_reducible first | exact HB.out | apply below_alloc | apply pw_below_drewN | apply below_drew1) | exact HB.out)))); have n1_ := Aside0.mk (below_step (by repeat (first | (with_reducible first | exact HB.out | apply below_alloc | apply pw_below_drewN | apply below_drew1) | exact HB.out)) hb); clear HB; have HO117 := n0_; have HB := n1_; clear n0_ n1_; (try clear hb); (try clear hb2); (try clear hk); (try clear hi); (try clear ho0)))
        repeat (go_quiet (first | (go_at_call 69; (with_reducible refine (furlongref01_First.calls k a1 t109 t110 t111 _ A3.out).mono ?_); rintro e w' ⟨rfl, ⟨nd, rfl⟩⟩; (try first | exact ⟨rfl, _, World.drewN_drewN _ _ _⟩ | exact ⟨rfl, _, Eq.trans (World.drewN_drewN _ _ _) (congrArg (World.drewN _) (Nat.add_assoc _ _ _))⟩)) | (go_at_call 70; (with_reducible refine (furlongref01_Open.calls k t109 t112 t113 _ A5.out).mono ?_); rintro e w' ⟨rfl, ⟨nd, rfl⟩⟩; (try first | exact ⟨rfl, _, World.drewN_drewN _ _ _⟩ | exact ⟨rfl, _, Eq.trans (World.drewN_drewN _ _ _) (congrArg (World.drewN _) (Nat.add_assoc _ _ _))⟩)) | (go_at_call 71; (with_reducible refine (furlongref01_Untie.calls k t112 t114 t115 _ A7.out).mono ?_); rintro e w25 ⟨v116, rfl, ho0, hb⟩; have n0_ := Aside0.mk (Kd.R_lower ho0 (below_size (by repeat (first | (with_reducible first | exact HB.out | apply below_alloc | apply pw_below_drewN | apply below_drew1) | exact HB.out)))); have n1_ := Aside0.mk (below_step (by repeat (first | (with_reducible first | exact HB.out | apply below_alloc | apply pw_below_drewN | apply below_drew1) | exact HB.out)) hb); clear HB; have HO117 := n0_; have HB := n1_; clear n0_ n1_; (try clear hb); (try clear hb2); (try clear hk); (try clear hi); (try clear ho0))); try go_wp2_with (first | (go_at_call 69; (with_reducible refine (furlongref01_First.calls k a1 t109 t110 t111 _ A3.out).mono ?_); rintro e w' ⟨rfl, ⟨nd, rfl⟩⟩; (try first | exact ⟨rfl, _, World.drewN_drewN _ _ _⟩ | exact ⟨rfl, _, Eq.trans (World.drewN_drewN _ _ _) (congrArg (World.drewN _) (Nat.add_assoc _ _ _))⟩)) | (go_at_call 70; (with_reducible refine (furlongref01_Open.calls k t109 t112 t113 _ A5.out).mono ?_); rintro e w' ⟨rfl, ⟨nd, rfl⟩⟩; (try first | exact ⟨rfl, _, World.drewN_drewN _ _ _⟩ | exact ⟨rfl, _, Eq.trans (World.drewN_drewN _ _ _) (congrArg (World.drewN _) (Nat.add_assoc _ _ _))⟩)) | (go_at_call 71; (with_reducible refine (furlongref01_Untie.calls k t112 t114 t115 _ A7.out).mono ?_); rintro e w25 ⟨v116, rfl, ho0, hb⟩; have n0_ := Aside0.mk (Kd.R_lower ho0 (below_size (by repeat (first | (with_reducible first | exact HB.out | apply below_alloc | apply pw_below_drewN | apply below_drew1) | exact HB.out)))); have n1_ := Aside0.mk (below_step (by repeat (first | (with_reducible first | exact HB.out | apply below_alloc | apply pw_below_drewN | apply below_drew1) | exact HB.out)) hb); clear HB; have HO117 := n0_; have HB := n1_; clear n0_ n1_; (try clear hb); (try clear hb2); (try clear hk); (try clear hi); (try clear ho0))))
        refine bodyPost_ret (results_list (rs := [.tmp 4, .tmp 5, .tmp 6, .tmp 7]) rfl (by simp) (.tmp (.tmp (.tmp (.tmp .nil))))) rfl ?_
        exact ⟨by first | rfl | (simp [errW_none, errW_some] <;> rfl) | (simp [*, errW_none, errW_some] <;> rfl), by repeat (first | (with_reducible first | exact HB.out | apply below_alloc | apply pw_below_drewN | apply below_drew1) | exact HB.out)⟩
    · rw [if_neg c6] at H
      have c6b0 : (t113 == 0) = false := beq_eq_false_iff_ne.mpr c6
      have c6b1 : (t113 != 0) = true := bne_iff_ne.mpr c6
      simp only [Option.some.injEq, Prod.mk.injEq] at H
      obtain ⟨rfl, rfl, rfl, rfl⟩ := H
      go_enter Tryz.func55, Tryz.ntmps55
      go_wp2_with (first | (go_at_call 69; (with_reducible refine (furlongref01_First.calls k a1 t109 t110 t111 _ A3.out).mono ?_); rintro e w' ⟨rfl, ⟨nd, rfl⟩⟩; (try first | exact ⟨rfl, _, World.drewN_drewN _ _ _⟩ | exact ⟨rfl, _, Eq.trans (World.drewN_drewN _ _ _) (congrArg (World.drewN _) (Nat.add_assoc _ _ _))⟩)) | (go_at_call 70; (with_reducible refine (furlongref01_Open.calls k t109 t112 t113 _ A5.out).mono ?_); rintro e w' ⟨rfl, ⟨nd, rfl⟩⟩; (try first | exact ⟨rfl, _, World.drewN_drewN _ _ _⟩ | exact ⟨rfl, _, Eq.trans (World.drewN_drewN _ _ _) (congrArg (World.drewN _) (Nat.add_assoc _ _ _))⟩)))
      repeat (go_quiet (first | (go_at_call 69; (with_reducible refine (furlongref01_First.calls k a1 t109 t110 t111 _ A3.out).mono ?_); rintro e w' ⟨rfl, ⟨nd, rfl⟩⟩; (try first | exact ⟨rfl, _, World.drewN_drewN _ _ _⟩ | exact ⟨rfl, _, Eq.trans (World.drewN_drewN _ _ _) (congrArg (World.drewN _) (Nat.add_assoc _ _ _))⟩)) | (go_at_call 70; (with_reducible refine (furlongref01_Open.calls k t109 t112 t113 _ A5.out).mono ?_); rintro e w' ⟨rfl, ⟨nd, rfl⟩⟩; (try first | exact ⟨rfl, _, World.drewN_drewN _ _ _⟩ | exact ⟨rfl, _, Eq.trans (World.drewN_drewN _ _ _) (congrArg (World.drewN _) (Nat.add_assoc _ _ _))⟩))); try go_wp2_with (first | (go_at_call 69; (with_reducible refine (furlongref01_First.calls k a1 t109 t110 t111 _ A3.out).mono ?_); rintro e w' ⟨rfl, ⟨nd, rfl⟩⟩; (try first | exact ⟨rfl, _, World.drewN_drewN _ _ _⟩ | exact ⟨rfl, _, Eq.trans (World.drewN_drewN _ _ _) (congrArg (World.drewN _) (Nat.add_assoc _ _ _))⟩)) | (go_at_call 70; (with_reducible refine (furlongref01_Open.calls k t109 t112 t113 _ A5.out).mono ?_); rintro e w' ⟨rfl, ⟨nd, rfl⟩⟩; (try first | exact ⟨rfl, _, World.drewN_drewN _ _ _⟩ | exact ⟨rfl, _, Eq.trans (World.drewN_drewN _ _ _) (congrArg (World.drewN _) (Nat.add_assoc _ _ _))⟩))))
      refine bodyPost_ret (results_list (rs := [.tmp 4, .tmp 5, .tmp 6, .tmp 7]) rfl (by simp) (.tmp (.tmp (.tmp (.tmp .nil))))) rfl ?_
      exact ⟨by first | rfl | (simp [errW_none, errW_some] <;> rfl) | (simp [*, errW_none, errW_some] <;> rfl), by repeat (first | (with_reducible first | exact HB.out | apply below_alloc | apply pw_below_drewN | apply below_drew1) | exact HB.out)⟩
  · rw [if_neg c4] at H
    have c4b0 : (t111 == 0) = false := beq_eq_false_iff_ne.mpr c4
    have c4b1 : (t111 != 0) = true := bne_iff_ne.mpr c4
    simp only [Option.some.injEq, Prod.mk.injEq] at H
    obtain ⟨rfl, rfl, rfl, rfl⟩ := H
    go_enter Tryz.func55, Tryz.ntmps55
    go_wp2_with (first | (go_at_call 69; (with_reducible refine (furlongref01_First.calls k a1 t109 t110 t111 _ A3.out).mono ?_); rintro e w' ⟨rfl, ⟨nd, rfl⟩⟩; (try first | exact ⟨rfl, _, World.drewN_drewN _ _ _⟩ | exact ⟨rfl, _, Eq.trans (World.drewN_drewN _ _ _) (congrArg (World.drewN _) (Nat.add_assoc _ _ _))⟩)))
    repeat (go_quiet (first | (go_at_call 69; (with_reducible refine (furlongref01_First.calls k a1 t109 t110 t111 _ A3.out).mono ?_); rintro e w' ⟨rfl, ⟨nd, rfl⟩⟩; (try first | exact ⟨rfl, _, World.drewN_drewN _ _ _⟩ | exact ⟨rfl, _, Eq.trans (World.drewN_drewN _ _ _) (congrArg (World.drewN _) (Nat.add_assoc _ _ _))⟩))); try go_wp2_with (first | (go_at_call 69; (with_reducible refine (furlongref01_First.calls k a1 t109 t110 t111 _ A3.out).mono ?_); rintro e w' ⟨rfl, ⟨nd, rfl⟩⟩; (try first | exact ⟨rfl, _, World.drewN_drewN _ _ _⟩ | exact ⟨rfl, _, Eq.trans (World.drewN_drewN _ _ _) (congrArg (World.drewN _) (Nat.add_assoc _ _ _))⟩))))
    refine bodyPost_ret (results_list (rs := [.tmp 4, .tmp 5, .tmp 6, .tmp 7]) rfl (by simp) (.tmp (.tmp (.tmp (.tmp .nil))))) rfl ?_
    exact ⟨by first | rfl | (simp [errW_none, errW_some] <;> rfl) | (simp [*, errW_none, errW_some] <;> rfl), by repeat (first | (with_reducible first | exact HB.out | apply below_alloc | apply pw_below_drewN | apply below_drew1) | exact HB.out)⟩

/-! ### furlongref04_Scan: function 38 -/
mutual
def furlongref04_Scan.j0 : Nat → ByteArray → Int → ByteArray → ByteArray → Bool → Option (Int × ByteArray × List ByteArray × Int)
  | 0, _, _, _, _, _ => none
  | k + 1, x0, x6, x7, x8, x31 => if x31 = true then (some (0, (⟨#[]⟩ : ByteArray), ([] : List ByteArray), 0)) else (furlongref04_Scan.l0 k x0 x6 x7 x8 ([] : List ByteArray))
def furlongref04_Scan.l0 : Nat → ByteArray → Int → ByteArray → ByteArray → List ByteArray → Option (Int × ByteArray × List ByteArray × Int)
  | 0, _, _, _, _, _ => none
  | k + 1, x0, x6, x7, x8, x10 => (furlongref04_page.f k (⟨#[114, 101, 99]⟩ : ByteArray) x8).bind fun bt128 => (if bt128.2.2.2 = true then (if bt128.1 = (wrap64 ((x10.length : Int) + 1)) then (if x10.length < 8796093022208 then (furlongref04_Scan.l0 k x0 x6 x7 bt128.2.2.1 (x10 ++ [bt128.2.1])) else (none)) else (some (x6, x7, x10, wrap64 ((x0.size : Int) - (x8.size : Int))))) else (some (x6, x7, x10, wrap64 ((x0.size : Int) - (x8.size : Int)))))
end
def furlongref04_Scan.f (k : Nat) (a0 : ByteArray) : Option (Int × ByteArray × List ByteArray × Int) := (furlongref04_page.f k (⟨#[98, 97, 115, 101]⟩ : ByteArray) a0).bind fun bt124 => (if bt124.2.2.2 = true then (if bt124.1 < 1 then (furlongref04_Scan.j0 k a0 bt124.1 bt124.2.1 bt124.2.2.1 true) else (furlongref04_Scan.j0 k a0 bt124.1 bt124.2.1 bt124.2.2.1 (decide (bt124.1 > 4611686018427387904)))) else (furlongref04_Scan.j0 k a0 bt124.1 bt124.2.1 bt124.2.2.1 true))
theorem furlongref04_Scan.mono_l : ∀ k, (∀ y0 y1 y2 y3 y4, LeO (furlongref04_Scan.j0 k y0 y1 y2 y3 y4) (furlongref04_Scan.j0 (k + 1) y0 y1 y2 y3 y4)) ∧ (∀ y0 y1 y2 y3 y4, LeO (furlongref04_Scan.l0 k y0 y1 y2 y3 y4) (furlongref04_Scan.l0 (k + 1) y0 y1 y2 y3 y4))
  | 0 => ⟨fun _ _ _ _ _ r h => by simp [furlongref04_Scan.j0] at h, fun _ _ _ _ _ r h => by simp [furlongref04_Scan.l0] at h⟩
  | k + 1 => by
    obtain ⟨ih0, ih1⟩ := furlongref04_Scan.mono_l k
    refine ⟨?_, ?_⟩
    · intro y0 y1 y2 y3 y4
      unfold furlongref04_Scan.j0
      repeat' first
      | (with_reducible exact ih0 _ _ _ _ _)
      | (with_reducible exact ih1 _ _ _ _ _)
      | (with_reducible exact furlongref04_page.mono _ _ _)
      | (with_reducible exact LeO.refl _)
      | (with_reducible exact LeO.none _)
      | (with_reducible refine LeO.ite ?_ ?_)
      | (with_reducible refine LeO.bind ?_ (fun _ => ?_))
      | exact ih0 _ _ _ _ _
      | exact ih1 _ _ _ _ _
      | exact furlongref04_page.mono _ _ _
      | exact LeO.none _
      | refine LeO.ite ?_ ?_
      | refine LeO.bind ?_ (fun _ => ?_)
    · intro y0 y1 y2 y3 y4
      unfold furlongref04_Scan.l0
      repeat' first
      | (with_reducible exact ih0 _ _ _ _ _)
      | (with_reducible exact ih1 _ _ _ _ _)
      | (with_reducible exact furlongref04_page.mono _ _ _)
      | (with_reducible exact LeO.refl _)
      | (with_reducible exact LeO.none _)
      | (with_reducible refine LeO.ite ?_ ?_)
      | (with_reducible refine LeO.bind ?_ (fun _ => ?_))
      | exact ih0 _ _ _ _ _
      | exact ih1 _ _ _ _ _
      | exact furlongref04_page.mono _ _ _
      | exact LeO.none _
      | refine LeO.ite ?_ ?_
      | refine LeO.bind ?_ (fun _ => ?_)
theorem furlongref04_Scan.mono : ∀ a0 k, LeO (furlongref04_Scan.f k a0) (furlongref04_Scan.f (k + 1) a0) := by
  intro a0 k
  obtain ⟨ih0, ih1⟩ := furlongref04_Scan.mono_l k
  unfold furlongref04_Scan.f
  repeat' first
      | (with_reducible exact ih0 _ _ _ _ _)
      | (with_reducible exact ih1 _ _ _ _ _)
      | (with_reducible exact furlongref04_page.mono _ _ _)
      | (with_reducible exact LeO.refl _)
      | (with_reducible exact LeO.none _)
      | (with_reducible refine LeO.ite ?_ ?_)
      | (with_reducible refine LeO.bind ?_ (fun _ => ?_))
      | exact ih0 _ _ _ _ _
      | exact ih1 _ _ _ _ _
      | exact furlongref04_page.mono _ _ _
      | exact LeO.none _
      | refine LeO.ite ?_ ?_
      | refine LeO.bind ?_ (fun _ => ?_)
set_option maxHeartbeats 8000000 in
set_option maxRecDepth 100000 in
theorem furlongref04_Scan.calls (k : Nat) (a0 : ByteArray) (r1 : Int) (r2 : ByteArray) (r3 : List ByteArray) (r4 : Int) (w : World) (h : furlongref04_Scan.f k a0 = some (r1, r2, r3, r4)) :
    Calls Tryz.prog 38 #[.string a0] w fun e w' => ∃ v2_ : Value, e = .returned (.tuple #[.int .i64 r1, .string r2, v2_, .int .i64 r4]) ∧ Kd.R Kd.string 9 w' w.heap.size (fun _ => True) v2_ r3 ∧ Below w.heap.size w w' := by
  have HB := Aside0.mk (Below.refl w.heap.size w)
  have H : ((furlongref04_page.f k (⟨#[98, 97, 115, 101]⟩ : ByteArray) a0).bind fun bt124 => (if bt124.2.2.2 = true then (if bt124.1 < 1 then (furlongref04_Scan.j0 k a0 bt124.1 bt124.2.1 bt124.2.2.1 true) else (furlongref04_Scan.j0 k a0 bt124.1 bt124.2.1 bt124.2.2.1 (decide (bt124.1 > 4611686018427387904)))) else (furlongref04_Scan.j0 k a0 bt124.1 bt124.2.1 bt124.2.2.1 true))) = some (r1, r2, r3, r4) := h
  clear h
  replace H := Option.bind_eq_some_iff.mp H
  obtain ⟨⟨t124, t125, t126, t127⟩, A20, H⟩ := H
  replace H : (if t127 = true then (if t124 < 1 then (furlongref04_Scan.j0 k a0 t124 t125 t126 true) else (furlongref04_Scan.j0 k a0 t124 t125 t126 (decide (t124 > 4611686018427387904)))) else (furlongref04_Scan.j0 k a0 t124 t125 t126 true)) = some (r1, r2, r3, r4) := H
  have A2 := Aside0.mk A20
  clear A20
  have HC3 := Aside0.mk H
  clear H
  go_enter Tryz.func38, Tryz.ntmps38
  go_upto_region 2 with (first | ((with_reducible refine gate_callee (f := 55) rfl ?_); refine goesL_ (some 17) rfl rfl Tryz.func55 (by kernel_rfl) rfl #[.string (⟨#[98, 97, 115, 101]⟩ : ByteArray), .string a0] rfl (by (try simp only [List.map_toArray, List.map_cons, List.map_nil]); first | done | rfl | (simp only [List.length_drop, List.length_take]; rfl)) ?_; (with_reducible refine (furlongref04_page.calls k (⟨#[98, 97, 115, 101]⟩ : ByteArray) a0 t124 t125 t126 t127 _ A2.out).mono ?_); rintro e w4 ⟨rfl, hb⟩; refine ⟨_, rfl, ?_⟩; have n0_ := Aside0.mk (below_step (by repeat (first | (with_reducible first | exact HB.out | apply below_alloc | apply pw_below_drewN | apply below_drew1) | exact HB.out)) hb); clear HB; have HB := n0_; clear n0_; (try clear hb); (try clear hb2); (try clear hk); (try clear hi)))
  (try simp only [Act.put, List.setIfInBounds_toArray, List.set_cons_zero, List.set_cons_succ])
  go_cut [31] (fun v31 wc => ∃ (kq : Nat) (x31_2 : Bool), v31 = .bool x31_2 ∧ Aside0 (furlongref04_Scan.j0 kq a0 t124 t125 t126 x31_2 = some (r1, r2, r3, r4)) ∧ Aside0 (kq ≤ k) ∧ Aside0 (Below w.heap.size w wc))
  case first =>
    have H := HC3.out
    clear HC3
    by_cases c5 : t127 = true
    · subst c5
      have H1 : (if t124 < 1 then (furlongref04_Scan.j0 k a0 t124 t125 t126 true) else (furlongref04_Scan.j0 k a0 t124 t125 t126 (decide (t124 > 4611686018427387904)))) = some (r1, r2, r3, r4) := by rw [if_pos rfl] at H; exact H
      clear H
      have H := H1
      clear H1
      by_cases c6 : t124 < 1
      · rw [if_pos c6] at H
        have c6b0 : decide (t124 < 1) = true := decide_eq_true c6
        clear c6
        (first | rw [c6b0] | (simp only [i64_w, i32_w]; rw [c6b0]) | skip)
        have H' := Aside0.mk H
        clear H
        go_wp2
        go_meet
        case rel => exact ⟨_, (true), (by first | rfl | (simp; done) | (simp [*]; done)), H', ⟨by first | omega | exact Nat.le_refl _⟩, ⟨by repeat (first | (with_reducible first | exact HB.out | apply below_alloc | apply pw_below_drewN | apply below_drew1) | exact HB.out)⟩⟩
      · rw [if_neg c6] at H
        have c6b0 : decide (t124 < 1) = false := decide_eq_false c6
        clear c6
        (first | rw [c6b0] | (simp only [i64_w, i32_w]; rw [c6b0]) | skip)
        have H' := Aside0.mk H
        clear H
        go_wp2
        go_meet
        case rel => exact ⟨_, (decide (t124 > 4611686018427387904)), (by first | rfl | (simp; done) | (simp [*]; done)), H', ⟨by first | omega | exact Nat.le_refl _⟩, ⟨by repeat (first | (with_reducible first | exact HB.out | apply below_alloc | apply pw_below_drewN | apply below_drew1) | exact HB.out)⟩⟩
    · replace c5 := Bool.eq_false_iff.mpr c5
      subst c5
      have H1 : (furlongref04_Scan.j0 k a0 t124 t125 t126 true) = some (r1, r2, r3, r4) := by rw [if_neg (show ¬ (false = true) by decide)] at H; exact H
      clear H
      have H := H1
      clear H1
      have H' := Aside0.mk H
      clear H
      go_wp2
      go_meet
      case rel => exact ⟨_, (true), (by first | rfl | (simp; done) | (simp [*]; done)), H', ⟨by first | omega | exact Nat.le_refl _⟩, ⟨by repeat (first | (with_reducible first | exact HB.out | apply below_alloc | apply pw_below_drewN | apply below_drew1) | exact HB.out)⟩⟩
  case rest =>
    clear HC3
    try clear p2
    try clear c3
    try clear c5
    try clear c6
    try clear c6b0
    obtain ⟨kq, x31_2, rfl, HA, HJ2, HB⟩ := hcut
    cases kq with
    | zero => exact absurd HA.out (by simp [furlongref04_Scan.j0])
    | succ kj2 =>
      have H := HA.out
      clear HA
      simp only [furlongref04_Scan.j0] at H
      by_cases c7 : x31_2 = true
      · subst c7
        have H1 : (some (0, (⟨#[]⟩ : ByteArray), ([] : List ByteArray), 0)) = some (r1, r2, r3, r4) := by rw [if_pos rfl] at H; exact H
        clear H
        have H := H1
        clear H1
        simp only [Option.some.injEq, Prod.mk.injEq] at H
        obtain ⟨rfl, rfl, rfl, rfl⟩ := H
        go_wp2
        refine bodyPost_ret (results_list (rs := [.tmp 2, .tmp 3, .tmp 4, .tmp 5]) rfl (by simp) (.tmp (.tmp (.tmp (.tmp .nil))))) rfl ?_
        exact ⟨_, by first | rfl | (simp [errW_none, errW_some] <;> rfl) | (simp [*, errW_none, errW_some] <;> rfl), by first | exact Kd.R_nil _ _ _ _ _ | exact Kd.N_nil _ _ _ _ _ | exact Kd.V_nil _ _ _ _ _ | exact Kd.Q_nil _ _ _ _ _ | exact Kd.S_nil _ _ _ _ _, by repeat (first | (with_reducible first | exact HB.out | apply below_alloc | apply pw_below_drewN | apply below_drew1) | exact HB.out)⟩
      · replace c7 := Bool.eq_false_iff.mpr c7
        subst c7
        have H1 : (furlongref04_Scan.l0 kj2 a0 t124 t125 t126 ([] : List ByteArray)) = some (r1, r2, r3, r4) := by rw [if_neg (show ¬ (false = true) by decide)] at H; exact H
        clear H
        have H := H1
        clear H1
        have H' := Aside0.mk H
        clear H
        go_wp2
        go_loopg [8, 10] kj2 (fun kq v8 v10 w' => ∃ (x8_2 : ByteArray) (x10_2 : List ByteArray), v8 = .string x8_2 ∧ Aside0 (furlongref04_Scan.l0 kq a0 t124 t125 x8_2 x10_2 = some (r1, r2, r3, r4)) ∧ Aside0 (kq ≤ kj2) ∧ Aside0 (Kd.R Kd.string 9 w' w.heap.size (fun _ => True) v10 x10_2) ∧ Aside0 (Below w.heap.size w w'))
        case atStart => exact ⟨(t126), (([] : List ByteArray)), (by first | rfl | (simp; done) | (simp [*]; done)), H', ⟨Nat.le_refl _⟩, ⟨by first | exact Kd.R_nil _ _ _ _ _ | exact Kd.N_nil _ _ _ _ _ | exact Kd.V_nil _ _ _ _ _ | exact Kd.Q_nil _ _ _ _ _ | exact Kd.S_nil _ _ _ _ _⟩, ⟨by repeat (first | (with_reducible first | exact HB.out | apply below_alloc | apply pw_below_drewN | apply below_drew1) | exact HB.out)⟩⟩
        case round =>
          clear H'
          try clear p2
          try clear c3
          try clear c5
          try clear c6
          try clear c6b0
          try clear c7
          try clear p2
          obtain ⟨x8_2, x10_2, rfl, HA, HK2, HO_10, HB⟩ := hrel
          cases gk with
          | zero => exact absurd HA.out (by simp [furlongref04_Scan.l0])
          | succ k2 =>
            have H := HA.out
            clear HA
            simp only [furlongref04_Scan.l0] at H
            replace H := Option.bind_eq_some_iff.mp H
            obtain ⟨⟨t128, t129, t130, t131⟩, A80, H⟩ := H
            replace H : (if t131 = true then (if t128 = (wrap64 ((x10_2.length : Int) + 1)) then (if x10_2.length < 8796093022208 then (furlongref04_Scan.l0 k2 a0 t124 t125 t130 (x10_2 ++ [t129])) else (none)) else (some (t124, t125, x10_2, wrap64 ((a0.size : Int) - (x8_2.size : Int))))) else (some (t124, t125, x10_2, wrap64 ((a0.size : Int) - (x8_2.size : Int))))) = some (r1, r2, r3, r4) := H
            have A8 := Aside0.mk A80
            clear A80
            by_cases c9 : t131 = true
            · subst c9
              have H1 : (if t128 = (wrap64 ((x10_2.length : Int) + 1)) then (if x10_2.length < 8796093022208 then (furlongref04_Scan.l0 k2 a0 t124 t125 t130 (x10_2 ++ [t129])) else (none)) else (some (t124, t125, x10_2, wrap64 ((a0.size : Int) - (x8_2.size : Int))))) = some (r1, r2, r3, r4) := by rw [if_pos rfl] at H; exact H
              clear H
              have H := H1
              clear H1
              by_cases c10 : t128 = (wrap64 ((x10_2.length : Int) + 1))
              · rw [if_pos c10] at H
                have c10b0 : (t128 == (wrap64 ((x10_2.length : Int) + 1))) = true := beq_iff_eq.mpr c10
                have c10b1 : (t128 != (wrap64 ((x10_2.length : Int) + 1))) = false := bne_eq_false_iff_eq.mpr c10
                clear c10
                by_cases c11 : x10_2.length < 8796093022208
                · rw [if_pos c11] at H
                  have LMc11 := Aside0.mk c11
                  clear c11
                  obtain ⟨y132, hy132⟩ : ∃ y_ : List ByteArray, y_ = (x10_2 ++ [t129]) := ⟨_, rfl⟩
                  replace H : (furlongref04_Scan.l0 k2 a0 t124 t125 t130 y132) = some (r1, r2, r3, r4) := by first | (rw [hy132]; with_reducible exact H) | (have H2_ := (Option.bind_some _ _).symm.trans H; rw [hy132]; with_reducible exact H2_) | (have H2_ := (Option.bind_some _ _).symm.trans H; with_reducible exact H2_) | with_reducible exact H | (rw [hy132]; exact H) | exact H
                  have Ny132 := Aside0.mk hy132
                  clear hy132
                  have H' := Aside0.mk H
                  clear H
                  go_wp2_with (first | ((with_reducible refine gate_callee (f := 55) rfl ?_); refine goesL_ (some 34) rfl rfl Tryz.func55 (by kernel_rfl) rfl #[.string (⟨#[114, 101, 99]⟩ : ByteArray), .string x8_2] rfl (by (try simp only [List.map_toArray, List.map_cons, List.map_nil]); first | done | rfl | (simp only [List.length_drop, List.length_take]; rfl)) ?_; (with_reducible refine (furlongref04_page.calls k2 (⟨#[114, 101, 99]⟩ : ByteArray) x8_2 t128 t129 t130 true _ A8.out).mono ?_); rintro e w12 ⟨rfl, hb⟩; refine ⟨_, rfl, ?_⟩; have n0_ := Aside0.mk (Kd.R_below (by (with_reducible repeat (first | apply Kd.R_alloc | apply Kd.R_drewN | apply Kd.R_drew)); exact HO_10.out) hb); have n1_ := Aside0.mk (below_step (by repeat (first | (with_reducible first | exact HB.out | apply below_alloc | apply pw_below_drewN | apply below_drew1) | exact HB.out)) hb); clear HO_10; clear HB; have HO_10 := n0_; have HB := n1_; clear n0_ n1_; (try clear hb); (try clear hb2); (try clear hk); (try clear hi); obtain ⟨Ao13, co13, eo13⟩ := Kd.R_slice HO_10.out; subst eo13) | ((with_reducible refine gate_builtin (b := .append) (xs := #[.tmp 56, .tmp 58]) rfl ?_); (try (refine gate_guard (by rfl) ?_; dsimp only)); at_builtin; refine Kd.R_append Kd.string (w0 := w) w.heap.size rfl (.tmp 56) (.tmp 58) 33 9 (.string ⟨#[]⟩) 16 rfl Tryz.underlying33 info9 rfl (by decide) (by omega) (.slice Ao13 x10_2.length co13) x10_2 t129 [.string t129] (fun _ => True) (fun _ => False) rfl rfl ?aP (fun _ hk => hk.elim) ?aF ?aO ?aB ?aS ?aL ?_; (case aP => exact rfl); (case aB => exact (by repeat (first | (with_reducible first | exact HB.out | apply below_alloc | apply pw_below_drewN | apply below_drew1) | exact HB.out))); (case aF => exact (fun _ _ => trivial)); (case aO => exact (by (with_reducible repeat (first | apply Kd.R_alloc | apply Kd.R_drewN | apply Kd.R_drew)); exact HO_10.out)); (case aS => exact (below_size (by repeat (first | (with_reducible first | exact HB.out | apply below_alloc | apply pw_below_drewN | apply below_drew1) | exact HB.out)))); (case aL => have := LMc11.out; omega); intro v133 w14 ho hb hg hat; rw [← Ny132.out] at ho; have n0_ := Aside0.mk (hb); have n1_ := Aside0.mk (ho); clear HB; clear HO_10; have HB := n0_; have HO134 := n1_; clear n0_ n1_; clear ho hb hg hat))
                  go_roundg k2
                  case measure => have := HJ2.out; have := HK2.out; omega
                  case rel => exact ⟨(t130), (y132), (by first | rfl | (simp; done) | (simp [*]; done)), H', ⟨by have := HJ2.out; have := HK2.out; omega⟩, ⟨by (with_reducible repeat (first | apply Kd.R_alloc | apply Kd.R_drewN | apply Kd.R_drew)); exact HO134.out⟩, ⟨by repeat (first | (with_reducible first | exact HB.out | apply below_alloc | apply pw_below_drewN | apply below_drew1) | exact HB.out)⟩⟩
                · rw [if_neg c11] at H
                  exact absurd H (by simp)
              · rw [if_neg c10] at H
                have c10b0 : (t128 == (wrap64 ((x10_2.length : Int) + 1))) = false := beq_eq_false_iff_ne.mpr c10
                have c10b1 : (t128 != (wrap64 ((x10_2.length : Int) + 1))) = true := bne_iff_ne.mpr c10
                simp only [Option.some.injEq, Prod.mk.injEq] at H
                obtain ⟨rfl, rfl, rfl, rfl⟩ := H
                go_wp2_with (first | ((with_reducible refine gate_callee (f := 55) rfl ?_); refine goesL_ (some 34) rfl rfl Tryz.func55 (by kernel_rfl) rfl #[.string (⟨#[114, 101, 99]⟩ : ByteArray), .string x8_2] rfl (by (try simp only [List.map_toArray, List.map_cons, List.map_nil]); first | done | rfl | (simp only [List.length_drop, List.length_take]; rfl)) ?_; (with_reducible refine (furlongref04_page.calls k2 (⟨#[114, 101, 99]⟩ : ByteArray) x8_2 t128 t129 t130 true _ A8.out).mono ?_); rintro e w15 ⟨rfl, hb⟩; refine ⟨_, rfl, ?_⟩; have n0_ := Aside0.mk (Kd.R_below (by (with_reducible repeat (first | apply Kd.R_alloc | apply Kd.R_drewN | apply Kd.R_drew)); exact HO_10.out) hb); have n1_ := Aside0.mk (below_step (by repeat (first | (with_reducible first | exact HB.out | apply below_alloc | apply pw_below_drewN | apply below_drew1) | exact HB.out)) hb); clear HO_10; clear HB; have HO_10 := n0_; have HB := n1_; clear n0_ n1_; (try clear hb); (try clear hb2); (try clear hk); (try clear hi); obtain ⟨Ao16, co16, eo16⟩ := Kd.R_slice HO_10.out; subst eo16))
                refine bodyPost_ret (results_list (rs := [.tmp 2, .tmp 3, .tmp 4, .tmp 5]) rfl (by simp) (.tmp (.tmp (.tmp (.tmp .nil))))) rfl ?_
                exact ⟨_, by first | rfl | (simp [errW_none, errW_some] <;> rfl) | (simp [*, errW_none, errW_some] <;> rfl), by (with_reducible repeat (first | apply Kd.R_alloc | apply Kd.R_drewN | apply Kd.R_drew)); exact HO_10.out, by repeat (first | (with_reducible first | exact HB.out | apply below_alloc | apply pw_below_drewN | apply below_drew1) | exact HB.out)⟩
            · replace c9 := Bool.eq_false_iff.mpr c9
              subst c9
              have H1 : (some (t124, t125, x10_2, wrap64 ((a0.size : Int) - (x8_2.size : Int)))) = some (r1, r2, r3, r4) := by rw [if_neg (show ¬ (false = true) by decide)] at H; exact H
              clear H
              have H := H1
              clear H1
              simp only [Option.some.injEq, Prod.mk.injEq] at H
              obtain ⟨rfl, rfl, rfl, rfl⟩ := H
              go_wp2_with (first | ((with_reducible refine gate_callee (f := 55) rfl ?_); refine goesL_ (some 34) rfl rfl Tryz.func55 (by kernel_rfl) rfl #[.string (⟨#[114, 101, 99]⟩ : ByteArray), .string x8_2] rfl (by (try simp only [List.map_toArray, List.map_cons, List.map_nil]); first | done | rfl | (simp only [List.length_drop, List.length_take]; rfl)) ?_; (with_reducible refine (furlongref04_page.calls k2 (⟨#[114, 101, 99]⟩ : ByteArray) x8_2 t128 t129 t130 false _ A8.out).mono ?_); rintro e w17 ⟨rfl, hb⟩; refine ⟨_, rfl, ?_⟩; have n0_ := Aside0.mk (Kd.R_below (by (with_reducible repeat (first | apply Kd.R_alloc | apply Kd.R_drewN | apply Kd.R_drew)); exact HO_10.out) hb); have n1_ := Aside0.mk (below_step (by repeat (first | (with_reducible first | exact HB.out | apply below_alloc | apply pw_below_drewN | apply below_drew1) | exact HB.out)) hb); clear HO_10; clear HB; have HO_10 := n0_; have HB := n1_; clear n0_ n1_; (try clear hb); (try clear hb2); (try clear hk); (try clear hi)))
              refine bodyPost_ret (results_list (rs := [.tmp 2, .tmp 3, .tmp 4, .tmp 5]) rfl (by simp) (.tmp (.tmp (.tmp (.tmp .nil))))) rfl ?_
              exact ⟨_, by first | rfl | (simp [errW_none, errW_some] <;> rfl) | (simp [*, errW_none, errW_some] <;> rfl), by (with_reducible repeat (first | apply Kd.R_alloc | apply Kd.R_drewN | apply Kd.R_drew)); exact HO_10.out, by repeat (first | (with_reducible first | exact HB.out | apply below_alloc | apply pw_below_drewN | apply below_drew1) | exact HB.out)⟩

end Go.Proofs.YtjmejamgbinigaaGreatDoor.XRs
namespace Go.Proofs.YtjmejamgbinigaaGreatDoor.XRs
open Go.RowKit Go.Proofs.YtjmejamgbinigaaGreatDoorW.PrintWords Go.Proofs.YtjmejamgbinigaaGreatDoorW.PrintLast Go.Proofs.YtjmejamgbinigaaGreatDoorW.PrintMore
attribute [local go_sem] max2_int min2_int max_two min_two max_three min_three max_four min_four   -- for this text's walks alone
set_option linter.unusedVariables false
set_option linter.unusedSimpArgs false

end Go.Proofs.YtjmejamgbinigaaGreatDoor.XRs
namespace Go.Proofs.YtjmejamgbinigaaGreatDoor
set_option linter.unusedVariables false
set_option linter.unusedSimpArgs false
open Go.RowKit Go.Lib Go.Proofs.YtjmejamgbinigaaGreatDoor.XRs Go.Proofs.YtjmejamgbinigaaGreatDoorW.PrintWords Go.Proofs.YtjmejamgbinigaaGreatDoorW.PrintLast Go.Proofs.YtjmejamgbinigaaGreatDoorW.PrintMore
def fT44 (x0 : ByteArray) (x5 x6 : Int) : Option (ByteArray × ByteArray × Int) := (if x5 > (wrap64 ((wrap64 ((x0.size : Int) - x6)) - 2)) then (some ((⟨#[]⟩ : ByteArray), x0, 10)) else (if x5 > (wrap64 ((wrap64 (1048576 - x6)) - 2)) then (some ((⟨#[]⟩ : ByteArray), x0, 10)) else (if 0 ≤ (wrap64 ((wrap64 (x6 + 1)) + x5)) then (if (wrap64 ((wrap64 (x6 + 1)) + x5)) < (x0.size : Int) then (if (bt x0 (wrap64 ((wrap64 (x6 + 1)) + x5))) = 44 then (if 0 ≤ (wrap64 (x6 + 1)) then (if (wrap64 (x6 + 1)) ≤ (wrap64 ((wrap64 (x6 + 1)) + x5)) then (if (wrap64 ((wrap64 (x6 + 1)) + x5)) ≤ (x0.size : Int) then (if 0 ≤ (wrap64 ((wrap64 (x6 + 2)) + x5)) then (if (wrap64 ((wrap64 (x6 + 2)) + x5)) ≤ (x0.size : Int) then (some (x0.extract ((wrap64 (x6 + 1)) : Int).toNat ((wrap64 ((wrap64 (x6 + 1)) + x5)) : Int).toNat, x0.extract ((wrap64 ((wrap64 (x6 + 2)) + x5)) : Int).toNat x0.size, 0)) else (none)) else (none)) else (none)) else (none)) else (none)) else (some ((⟨#[]⟩ : ByteArray), x0, 10))) else (none)) else (none))))
def fT58 (x0 : ByteArray) (x5 x6 : Int) : Option (ByteArray × ByteArray × Int) := (if (bt x0 x6) = 58 then (if x6 > 1 then (if 0 < (x0.size : Int) then (if (bt x0 0) = 48 then (some ((⟨#[]⟩ : ByteArray), x0, 10)) else (fT44 x0 x5 x6)) else (none)) else (fT44 x0 x5 x6)) else (some ((⟨#[]⟩ : ByteArray), x0, 10)))
theorem fT44_eq (s : ByteArray) (hs : s.size ≤ 4294967000) (n k : Nat) (hn : n < 1000000000) (hk : k < s.size) (hk8 : k ≤ 8) :
    fT44 s n k = if k + 2 + n ≤ s.size ∧ k + 2 + n ≤ 1048576 ∧ (bsL s).getD (k + 1 + n) 0 = 44 then some (str (((bsL s).drop (k + 1)).take n), str ((bsL s).drop (k + 2 + n)), 0) else some ((⟨#[]⟩ : ByteArray), s, 10) := by
  have z := bs_size s
  have a1 : wrap64 ((k : Int) + 1) = (k : Int) + 1 := wrap_id (by omega) (by omega)
  have a2 : wrap64 ((k : Int) + 1 + (n : Int)) = ((k + 1 + n : Nat) : Int) := by rw [wrap_id (by omega) (by omega)]; omega
  have a3 : wrap64 ((k : Int) + 2) = (k : Int) + 2 := wrap_id (by omega) (by omega)
  have a4 : wrap64 ((k : Int) + 2 + (n : Int)) = ((k + 2 + n : Nat) : Int) := by rw [wrap_id (by omega) (by omega)]; omega
  have b1 : wrap64 ((s.size : Int) - (k : Int)) = (s.size : Int) - k := wrap_id (by omega) (by omega)
  have b2 : wrap64 ((s.size : Int) - (k : Int) - 2) = (s.size : Int) - k - 2 := wrap_id (by omega) (by omega)
  have c1 : wrap64 (1048576 - (k : Int)) = 1048576 - (k : Int) := wrap_id (by omega) (by omega)
  have c2 : wrap64 (1048576 - (k : Int) - 2) = 1048576 - (k : Int) - 2 := wrap_id (by omega) (by omega)
  unfold fT44
  simp only [a1, a2, a3, a4, b1, b2, c1, c2]
  by_cases h1 : (n : Int) > (s.size : Int) - k - 2
  · rw [if_pos h1, if_neg (by omega)]
  · rw [if_neg h1]
    by_cases h2 : (n : Int) > 1048576 - (k : Int) - 2
    · rw [if_pos h2, if_neg (by omega)]
    · rw [if_neg h2, if_pos (Int.natCast_nonneg _), if_pos (by omega : ((k + 1 + n : Nat) : Int) < (s.size : Int)), bt_is, Int.toNat_natCast]
      by_cases h3 : (bsL s).getD (k + 1 + n) 0 = 44
      · have h4 : ((((bsL s).getD (k + 1 + n) 0).toNat : Nat) : Int) = 44 := by rw [h3]; rfl
        rw [if_pos h4, if_pos (by omega), if_pos (by omega), if_pos (by omega), if_pos (Int.natCast_nonneg _), if_pos (by omega), if_pos ⟨by omega, by omega, h3⟩]
        have e1 : ((k : Int) + 1).toNat = k + 1 := by omega
        rw [e1, Int.toNat_natCast, extract_str, extract_str, show k + 1 + n - (k + 1) = n by omega, List.take_of_length_le (l := (bsL s).drop (k + 2 + n)) (by rw [List.length_drop, z]; omega)]
      · have h4 : ¬ ((((bsL s).getD (k + 1 + n) 0).toNat : Nat) : Int) = 44 := by
          intro h
          apply h3
          rw [← UInt8.toNat_inj]
          have : (44 : UInt8).toNat = 44 := rfl
          omega
        rw [if_neg h4, if_neg (fun q => h3 q.2.2)]
theorem bt_at (s : ByteArray) (k : Nat) (c : UInt8) (m : Int) (hm : (c.toNat : Int) = m) : (bt s (k : Int) = m) ↔ (bsL s).getD k 0 = c := by
  rw [bt_is, Int.toNat_natCast]
  constructor
  · intro h
    rw [← UInt8.toNat_inj]
    omega
  · intro h
    rw [h, hm]
theorem bt_front (s : ByteArray) : (bt s 0 = 48) ↔ (bsL s).getD 0 0 = 48 := bt_at s 0 48 48 rfl
theorem fT58_ok (s : ByteArray) (hs : s.size ≤ 4294967000) (n k : Nat) (hn : n < 1000000000) (hk8 : k ≤ 8) (h : FOkL (bsL s) n k) :
    fT58 s n k = some (str (((bsL s).drop (k + 1)).take n), str ((bsL s).drop (k + 2 + n)), 0) := by
  have z := bs_size s
  obtain ⟨p, lt, c, zr, f, m, cm⟩ := h
  have h44 := fT44_eq s hs n k hn (by omega) hk8
  rw [if_pos ⟨by omega, m, cm⟩] at h44
  unfold fT58
  rw [if_pos ((bt_at s k 58 58 rfl).2 c)]
  by_cases h1 : (k : Int) > 1
  · have h2 : ¬ bt s 0 = 48 := fun q => zr ⟨by omega, (bt_front s).1 q⟩
    rw [if_pos h1, if_pos (by omega), if_neg h2, h44]
  · rw [if_neg h1, h44]
theorem fT58_no (s : ByteArray) (hs : s.size ≤ 4294967000) (n k : Nat) (hn : n < 1000000000) (hk8 : k ≤ 8) (h0 : 0 < k) (hk : k < s.size) (h : ¬ FOkL (bsL s) n k) :
    fT58 s n k = some ((⟨#[]⟩ : ByteArray), s, 10) := by
  have z := bs_size s
  have h44 := fT44_eq s hs n k hn hk hk8
  unfold fT58
  by_cases c : (bsL s).getD k 0 = 58
  · rw [if_pos ((bt_at s k 58 58 rfl).2 c)]
    by_cases zr : 1 < k ∧ (bsL s).getD 0 0 = 48
    · have h2 : bt s 0 = 48 := (bt_front s).2 zr.2
      rw [if_pos (by omega), if_pos (by omega), if_pos h2]
    · have h3 : fT44 s n k = some ((⟨#[]⟩ : ByteArray), s, 10) := by
        rw [h44, if_neg]
        rintro ⟨q1, q2, q3⟩
        exact h ⟨h0, by omega, c, zr, by omega, q2, q3⟩
      by_cases h1 : (k : Int) > 1
      · have h2 : ¬ bt s 0 = 48 := fun q => zr ⟨by omega, (bt_front s).1 q⟩
        rw [if_pos h1, if_pos (by omega), if_neg h2, h3]
      · rw [if_neg h1, h3]
  · rw [if_neg (fun q => c ((bt_at s k 58 58 rfl).1 q))]
theorem first_go (s : ByteArray) (hs : s.size ≤ 4294967000) (K n k : Nat) (hn : n < 100000000) (hk : k < s.size) (hk8 : k < 8) (hd : Dig ((bsL s).getD k 0)) :
    furlongref01_First.l0 (K + 1) s n k = furlongref01_First.l0 K s ((10 * n + (((bsL s).getD k 0).toNat - 48) : Nat) : Int) ((k + 1 : Nat) : Int) := by
  have hd' := hd
  unfold Dig at hd'
  have hb : bt s (k : Int) = ((((bsL s).getD k 0).toNat : Nat) : Int) := by rw [bt_is, Int.toNat_natCast]
  rw [furlongref01_First.l0, if_pos (by omega), if_pos (by omega), if_pos (Int.natCast_nonneg _), hb, if_pos (by omega), if_pos (by omega)]
  have e1 : wrap64 (wrap64 (10 * (n : Int)) + ((((((bsL s).getD k 0).toNat : Nat) : Int) - 48) % 256)) = ((10 * n + (((bsL s).getD k 0).toNat - 48) : Nat) : Int) := by
    rw [wrap_id (x := 10 * (n : Int)) (by omega) (by omega), wrap_id (by omega) (by omega)]
    omega
  have e2 : wrap64 ((k : Int) + 1) = ((k + 1 : Nat) : Int) := by rw [wrap_id (by omega) (by omega)]; rfl
  rw [e1, e2]
theorem first_stop (s : ByteArray) (hs : s.size ≤ 4294967000) (K n k : Nat) (hk : k ≤ s.size) (hk8 : k ≤ 8) (hd : k = s.size ∨ k = 8 ∨ ¬ Dig ((bsL s).getD k 0)) :
    furlongref01_First.l0 (K + 1) s n k = if k = 0 then some ((⟨#[]⟩ : ByteArray), s, 10) else if k = s.size then some ((⟨#[]⟩ : ByteArray), s, 10) else fT58 s n k := by
  have hb : bt s (k : Int) = ((((bsL s).getD k 0).toNat : Nat) : Int) := by rw [bt_is, Int.toNat_natCast]
  rw [furlongref01_First.l0]
  by_cases h0 : k = 0
  · rw [if_pos h0]
    by_cases h1 : k = s.size
    · rw [if_neg (by omega), if_pos (by omega)]
    · rcases hd with hd | hd | hd
      · exact absurd hd h1
      · omega
      · unfold Dig at hd
        rw [if_pos (by omega), if_pos (by omega), if_pos (Int.natCast_nonneg _)]
        by_cases h2 : bt s (k : Int) ≥ 48
        · rw [if_pos h2, if_neg (by omega), if_pos (by omega)]
        · rw [if_neg h2, if_pos (by omega)]
  · rw [if_neg h0]
    by_cases h1 : k = s.size
    · rw [if_pos h1, if_neg (by omega), if_neg (by omega), if_pos (by omega)]
    · rw [if_neg h1]
      by_cases h8 : k = 8
      · rw [if_pos (by omega), if_neg (by omega), if_neg (by omega), if_neg (by omega), if_pos (Int.natCast_nonneg _)]
        rfl
      · rcases hd with hd | hd | hd
        · exact absurd hd h1
        · exact absurd hd h8
        · unfold Dig at hd
          rw [if_pos (by omega), if_pos (by omega), if_pos (Int.natCast_nonneg _)]
          by_cases h2 : bt s (k : Int) ≥ 48
          · rw [if_pos h2, if_neg (by omega), if_neg (by omega), if_neg (by omega)]
            rfl
          · rw [if_neg h2, if_neg (by omega), if_neg (by omega)]
            rfl
theorem first_eat (s : ByteArray) (hs : s.size ≤ 4294967000) : ∀ (E D T : Txt) (K : Nat), bsL s = D ++ E ++ T → (∀ c ∈ D, Dig c) → (∀ c ∈ E, Dig c) → (D ++ E).length ≤ 8 →
    furlongref01_First.l0 (K + E.length) s (valD D 0 : Nat) (D.length : Nat) = furlongref01_First.l0 K s (valD (D ++ E) 0 : Nat) ((D ++ E).length : Nat)
  | [], D, T, K, _, _, _, _ => by simp
  | c :: E, D, T, K, h, h1, h2, h8 => by
    have z := bs_size s
    have hl := congrArg List.length h
    simp only [List.length_append, List.length_cons] at hl h8
    have hg : (bsL s).getD D.length 0 = c := by
      rw [h, List.append_assoc, List.getD_eq_getElem?_getD, List.getElem?_append_right (Nat.le_refl _)]
      simp
    have hv := valD_lt D 0 h1
    have hp : 10 ^ D.length ≤ 10 ^ 7 := Nat.pow_le_pow_right (by decide) (by omega)
    have h10 : (10 : Nat) ^ 7 = 10000000 := by decide
    have hd : Dig ((bsL s).getD D.length 0) := by rw [hg]; exact h2 c (by simp)
    rw [show K + (c :: E).length = (K + E.length) + 1 by rw [List.length_cons]; omega, first_go s hs _ _ _ (by omega) (by omega) (by omega) hd, hg]
    have e1 : 10 * valD D 0 + (c.toNat - 48) = valD (D ++ [c]) 0 := by rw [valD_app]; rfl
    have e2 : D.length + 1 = (D ++ [c]).length := by simp
    have ih := first_eat s hs E (D ++ [c]) T K (by rw [h]; simp) (fun x hx => by
      rcases List.mem_append.1 hx with hx | hx
      · exact h1 x hx
      · rw [List.mem_singleton.1 hx]; exact h2 c (by simp)) (fun x hx => h2 x (by simp [hx])) (by simp; omega)
    rw [e1, e2, ih]
    simp
theorem rfirst_eq (s : ByteArray) (hs : s.size ≤ 4294967000) (K : Nat) (hK : 9 ≤ K) :
    furlongref01_First.f K s = some (match firstL (bsL s) with | some (x, r) => (str x, str r, 0) | none => ((⟨#[]⟩ : ByteArray), s, 10)) := by
  have z := bs_size s
  obtain ⟨D, T, hDT, h8, hd, hT⟩ := dig_take 8 (bsL s)
  have hl := congrArg List.length hDT
  rw [List.length_append] at hl
  have hv := valD_lt D 0 hd
  have hp : 10 ^ D.length ≤ 10 ^ 8 := Nat.pow_le_pow_right (by decide) h8
  have h10 : (10 : Nat) ^ 8 = 100000000 := by decide
  obtain ⟨J, rfl⟩ : ∃ J, K = (J + 1) + D.length := ⟨K - D.length - 1, by omega⟩
  have e0 := first_eat s hs D [] T (J + 1) (by rw [hDT]; rfl) (by simp) hd (by simpa using h8)
  have e1 : furlongref01_First.f (J + 1 + D.length) s = furlongref01_First.l0 (J + 1) s (valD D 0 : Nat) (D.length : Nat) := e0
  have hst : D.length = s.size ∨ D.length = 8 ∨ ¬ Dig ((bsL s).getD D.length 0) := by
    rcases hT with hT | hT | ⟨c, U, hT, hc⟩
    · left
      rw [hT] at hl
      simp at hl
      omega
    · exact .inr (.inl hT)
    · right; right
      rw [hDT, hT, List.getD_eq_getElem?_getD, List.getElem?_append_right (Nat.le_refl _)]
      simpa using hc
  rw [e1, first_stop s hs J _ _ (by omega) h8 hst]
  by_cases hok : FOkL (bsL s) (valD D 0) D.length
  · have hp0 := hok.pos
    have hlt := hok.lt
    rw [if_neg (by omega), if_neg (by omega), fT58_ok s hs _ _ (by omega) h8 hok]
    have hf := hok
    rw [hDT] at hf
    have := fok_first hd hf
    rw [← hDT] at this
    rw [this]
  · have hn : firstL (bsL s) = none := by
      cases hq : firstL (bsL s) with
      | none => rfl
      | some p =>
        obtain ⟨x, r⟩ := p
        exfalso
        apply hok
        rw [hDT] at hq ⊢
        exact first_fok hd hT hq
    rw [hn]
    by_cases h0 : D.length = 0
    · rw [if_pos h0]
    · by_cases h1 : D.length = s.size
      · rw [if_neg h0, if_pos h1]
      · rw [if_neg h0, if_neg h1, fT58_no s hs _ _ (by omega) h8 (by omega) (by omega) hok]
end Go.Proofs.YtjmejamgbinigaaGreatDoor
namespace Go.Proofs.YtjmejamgbinigaaGreatDoor
set_option linter.unusedVariables false
set_option linter.unusedSimpArgs false
open Go.RowKit Go.Lib Go.Proofs.YtjmejamgbinigaaGreatDoor.XRs Go.Proofs.YtjmejamgbinigaaGreatDoorW.PrintWords Go.Proofs.YtjmejamgbinigaaGreatDoorW.PrintLast Go.Proofs.YtjmejamgbinigaaGreatDoorW.PrintMore
theorem qsum_loop (s : ByteArray) (hs : s.size ≤ 4294967000) : ∀ (d i a b K : Nat), i + d = s.size → d + 1 ≤ K → a < 65521 → b < 65521 →
    furlongref01_Sum.l0 K s (a : Int) (b : Int) (i : Int) = some (((sumGo ((bsL s).drop i) (a, b)).2 * 65536 + (sumGo ((bsL s).drop i) (a, b)).1 : Nat) : Int)
  | 0, i, a, b, K, h, hK, ha, hb => by
    cases K with
    | zero => omega
    | succ K =>
      rw [furlongref01_Sum.l0, if_neg (by omega), List.drop_eq_nil_of_le (by rw [bs_size]; omega)]
      show some (Go.bits .or .u32 (((b : Int) * 65536) % 4294967296) (a : Int)) = some ((b * 65536 + a : Nat) : Int)
      rw [← sum_or a b ha hb, show ((b : Int) * 65536) % 4294967296 = (b : Int) * 65536 by omega]
  | d + 1, i, a, b, K, h, hK, ha, hb => by
    cases K with
    | zero => omega
    | succ K =>
      have hi : i < s.size := by omega
      rw [furlongref01_Sum.l0, if_pos (by omega), if_pos (by omega), bs_get s i hi]
      have hbt : bt s (i : Int) = (s[i].toNat : Int) := by unfold bt; simp [hi]
      have hx := (s[i]).toNat_lt
      rw [hbt, wrap_id (by omega) (by omega)]
      have e1 : (((a : Int) + ((s[i].toNat : Int) % 4294967296)) % 4294967296) % 65521 = (((a + s[i].toNat) % 65521 : Nat) : Int) := by omega
      rw [e1]
      have hA : (a + s[i].toNat) % 65521 < 65521 := Nat.mod_lt _ (by decide)
      have e2 : (((b : Int) + (((a + s[i].toNat) % 65521 : Nat) : Int)) % 4294967296) % 65521 = (((b + (a + s[i].toNat) % 65521) % 65521 : Nat) : Int) := by omega
      rw [e2, show ((i : Int) + 1) = ((i + 1 : Nat) : Int) by omega, qsum_loop s hs d (i + 1) _ _ K (by omega) (by omega) hA (Nat.mod_lt _ (by decide))]
      rfl
theorem qsum_eq (s : ByteArray) (hs : s.size ≤ 4294967000) (K : Nat) (hK : s.size + 1 ≤ K) : furlongref01_Sum.f K s = some ((sumL (bsL s) : Nat) : Int) := by
  have := qsum_loop s hs s.size 0 1 0 K (by omega) hK (by decide) (by decide)
  exact this
theorem qseal_step (K : Nat) (x : ByteArray) (n : Nat) (hn : n < 4294967296) (i : Nat) (hi : i < 8) (hx : x.size ≤ 4294967296) :
    furlongref01_Seal.l0 (K + 1) x (n : Int) (i : Int) = furlongref01_Seal.l0 K (x ++ str [hexD (n / 16 ^ (7 - i) % 16)]) (n : Int) ((i + 1 : Nat) : Int) := by
  have hw : IntKind.u64.wrap (wrap64 (28 - (wrap64 (4 * (i : Int))))) = ((28 - 4 * i : Nat) : Int) := by
    rw [IntKind.wrap_u64]
    unfold wrap64
    omega
  have hp : (2 : Nat) ^ (28 - 4 * i) = 16 ^ (7 - i) := by
    have hc : i = 0 ∨ i = 1 ∨ i = 2 ∨ i = 3 ∨ i = 4 ∨ i = 5 ∨ i = 6 ∨ i = 7 := by omega
    rcases hc with rfl | rfl | rfl | rfl | rfl | rfl | rfl | rfl <;> rfl
  have hd : Go.bits .and .u32 (shr .u32 (n : Int) ((28 - 4 * i : Nat) : Int)) 15 = ((n / 16 ^ (7 - i) % 16 : Nat) : Int) := by
    have h1 : shr .u32 (n : Int) ((28 - 4 * i : Nat) : Int) = ((n / 16 ^ (7 - i) : Nat) : Int) := by
      unfold shr
      rw [Int.toNat_natCast, show min (28 - 4 * i) (IntKind.u32.bits) = 28 - 4 * i from Nat.min_eq_left (by show 28 - 4 * i ≤ 32; omega), ← hp]
      simp
    have hlt : n / 16 ^ (7 - i) < 4294967296 := Nat.lt_of_le_of_lt (Nat.div_le_self _ _) hn
    rw [h1, show (15 : Int) = ((15 : Nat) : Int) from rfl, u32_and_nat _ _ hlt (by decide)]
    have := Nat.and_two_pow_sub_one_eq_mod (n / 16 ^ (7 - i)) 4
    rw [show (2 : Nat) ^ 4 - 1 = 15 from rfl, show (2 : Nat) ^ 4 = 16 from rfl] at this
    rw [this]
  rw [furlongref01_Seal.l0, hw, hd]
  obtain ⟨D, hD⟩ : ∃ D, n / 16 ^ (7 - i) % 16 = D := ⟨_, rfl⟩
  have hD16 : D < 16 := by rw [← hD]; exact Nat.mod_lt _ (by decide)
  rw [hD, show (((D : Int) + 1) % 4294967296) = ((D + 1 : Nat) : Int) by omega, Int.toNat_natCast, Int.toNat_natCast, tab_at D hD16]
  have hz : (str [hexD D]).size = 1 := rfl
  rw [if_pos (by omega), if_pos (by omega), if_pos (by omega), if_pos (by omega), if_pos (by omega), if_pos (by rw [hz]; omega), wrap_id (by omega) (by omega)]
  rfl
theorem qseal_eq (s : ByteArray) (hs : s.size ≤ 4294960000) (K : Nat) (hK : s.size + 9 ≤ K) : furlongref01_Seal.f K s = some (str (sealL (bsL s))) := by
  unfold furlongref01_Seal.f
  rw [qsum_eq s (by omega) K (by omega)]
  show furlongref01_Seal.l0 K s (sumL (bsL s) : Nat) 0 = _
  have hn : sumL (bsL s) < 4294967296 := by
    have h1 := sum_fst' (bsL s) 1 0 (by decide) (by decide)
    unfold sumL
    omega
  obtain ⟨n, hnn⟩ : ∃ n, sumL (bsL s) = n := ⟨_, rfl⟩
  rw [hnn] at hn ⊢
  obtain ⟨k, rfl⟩ : ∃ k, K = k + 1 + 1 + 1 + 1 + 1 + 1 + 1 + 1 + 1 := ⟨K - 9, by omega⟩
  have zz : ∀ (x : ByteArray) (d : UInt8), (x ++ str [d]).size = x.size + 1 := fun x d => by rw [ByteArray.size_append]; rfl
  have h0 : (0 : Int) = ((0 : Nat) : Int) := rfl
  rw [h0, qseal_step _ _ n hn 0 (by decide) (by omega), qseal_step _ _ n hn 1 (by decide) (by rw [zz]; omega), qseal_step _ _ n hn 2 (by decide) (by rw [zz, zz]; omega), qseal_step _ _ n hn 3 (by decide) (by rw [zz, zz, zz]; omega),
    qseal_step _ _ n hn 4 (by decide) (by rw [zz, zz, zz, zz]; omega), qseal_step _ _ n hn 5 (by decide) (by rw [zz, zz, zz, zz, zz]; omega), qseal_step _ _ n hn 6 (by decide) (by rw [zz, zz, zz, zz, zz, zz]; omega), qseal_step _ _ n hn 7 (by decide) (by rw [zz, zz, zz, zz, zz, zz, zz]; omega)]
  rw [furlongref01_Seal.l0, if_neg (by decide)]
  congr 1
  apply bs_inj
  unfold sealL
  rw [hnn, bs_of]
  have ha : ∀ (x : ByteArray) (d : UInt8), bsL (x ++ str [d]) = bsL x ++ [d] := fun x d => by simp [bsL, str]
  rw [ha, ha, ha, ha, ha, ha, ha, ha]
  unfold hex8
  simp only [List.append_assoc, List.cons_append, List.nil_append]
  simp
where sum_fst' : ∀ (l : Txt) (a b : Nat), a < 65521 → b < 65521 → (sumGo l (a, b)).1 < 65521 ∧ (sumGo l (a, b)).2 < 65521
  | [], a, b, ha, hb => ⟨ha, hb⟩
  | c :: l, a, b, ha, hb => by
    rw [sumGo]
    exact sum_fst' l _ _ (Nat.mod_lt _ (by decide)) (Nat.mod_lt _ (by decide))
theorem qopen_eq (s : ByteArray) (hs : s.size ≤ 4294960000) (K : Nat) (hK : s.size + 9 ≤ K) : furlongref01_Open.f K s = some (match openL (bsL s) with | some t => (str t, 0) | none => ((⟨#[]⟩ : ByteArray), 11)) := by
  have z := bs_size s
  unfold furlongref01_Open.f openL
  have hw : wrap64 ((s.size : Int) - 8) = (s.size : Int) - 8 := wrap_id (by omega) (by omega)
  rw [hw]
  by_cases h : s.size < 8
  · rw [if_pos (by omega), if_pos (by omega)]
  · have ht : ((s.size : Int) - 8).toNat = s.size - 8 := by omega
    rw [if_neg (by omega), if_pos (by omega), if_pos (by omega), if_neg (by omega), ht]
    have e1 : s.extract 0 (s.size - 8) = str ((bsL s).take ((bsL s).length - 8)) := by rw [extract_str, List.drop_zero, Nat.sub_zero, z]
    rw [e1, qseal_eq _ (by rw [str_size]; simp; omega) K (by rw [str_size]; simp; omega), bs_of]
    simp only [Option.bind_some]
    rw [bs_toList, bs_toList, bs_of]
    split
    · rfl
    · rfl
theorem quntie_l0_eq : ∀ (f : Nat) (s : ByteArray) (acc : List ByteArray) (K : Nat), s.size < f → f + 9 ≤ K → s.size ≤ 1048576 → acc.length ≤ 4096 →
    furlongref01_Untie.l0 K s acc = some (match untieGo f (bsL s) (acc.map bsL) with | some l => (l.map str, 0) | none => ([], 10))
  | 0, s, acc, K, h, _, _, _ => absurd h (by omega)
  | f + 1, s, acc, K, h, hK, hs, ha => by
    obtain ⟨K, rfl⟩ : ∃ j, K = j + 1 := ⟨K - 1, by omega⟩
    have z := bs_size s
    simp only [furlongref01_Untie.l0, untieGo]
    rw [bs_toList]
    by_cases h0 : bsL s = []
    · rw [if_pos h0, if_pos h0]
      simp only
      congr 2
      rw [List.map_map]
      have : (str ∘ bsL) = id := funext fun x => of_bs x
      rw [this, List.map_id]
    · rw [if_neg h0, if_neg h0, rfirst_eq s (by omega) K (by omega)]
      simp only [Option.bind_some]
      cases hf : firstL (bsL s) with
      | none => simp
      | some p =>
        obtain ⟨x, r⟩ := p
        simp only
        rw [if_pos trivial, List.length_map]
        by_cases h1 : 4096 ≤ acc.length
        · rw [if_pos (by omega), if_pos h1]
        · rw [if_neg (by omega), if_neg h1, if_pos (by omega)]
          obtain ⟨e, _⟩ := first_some hf
          have hl := congrArg List.length e
          rw [List.length_append] at hl
          have := strand_length x
          have hr : (str r).size < f := by rw [str_size]; omega
          rw [quntie_l0_eq f (str r) (acc ++ [str x]) K hr (by omega) (by rw [str_size]; omega) (by simp; omega), bs_of, List.map_append]
          simp [bs_of]
theorem quntie_eq (s : ByteArray) (K : Nat) (hK : s.size + 10 ≤ K) : furlongref01_Untie.f K s = some (match untieL (bsL s) with | some l => (l.map str, 0) | none => ([], 10)) := by
  unfold furlongref01_Untie.f untieL
  rw [bs_size]
  unfold maxKnot
  by_cases h : 1048576 < s.size
  · rw [if_pos (by omega), if_pos h]
  · rw [if_neg (by omega), if_neg h, quntie_l0_eq (s.size + 1) s [] K (by omega) (by omega) (by omega) (by simp)]
    rfl
theorem qpage_eq (kd s : ByteArray) (K : Nat) (hs : s.size ≤ 4294960000) (hK : s.size + 30 ≤ K) :
    (∀ k n t r, readL (bsL s) = some ((k, n, t), r) → furlongref04_page.f K kd s = some (if k = bsL kd then (n, str t, str r, true) else (0, (⟨#[]⟩ : ByteArray), (⟨#[]⟩ : ByteArray), false))) ∧
    (readL (bsL s) = none → ∃ x y u, furlongref04_page.f K kd s = some (x, y, u, false)) := by
  have z := bs_size s
  unfold furlongref04_page.f readL
  rw [rfirst_eq s (by omega) K (by omega)]
  simp only [Option.bind_some]
  cases hf : firstL (bsL s) with
  | none => exact ⟨fun _ _ _ _ h => (by cases h), fun _ => ⟨_, _, _, if_neg (show ¬ _ from (by decide : ¬ (10 : Int) = 0))⟩⟩
  | some p =>
    obtain ⟨x, r0⟩ := p
    have lx := first_len hf
    have lx1 : (str x).size ≤ 4294960000 := by rw [str_size]; omega
    simp only
    rw [if_pos trivial, qopen_eq (str x) lx1 K (by rw [str_size]; omega), bs_of]
    simp only [Option.bind_some]
    cases ho : openL x with
    | none => exact ⟨fun _ _ _ _ h => (by cases h), fun _ => ⟨_, _, _, if_neg (show ¬ _ from (by decide : ¬ (11 : Int) = 0))⟩⟩
    | some y =>
      have ly := open_len ho
      simp only
      rw [if_pos trivial, quntie_eq (str y) K (by rw [str_size]; omega), bs_of]
      simp only [Option.bind_some]
      cases hu : untieL y with
      | none => exact ⟨fun _ _ _ _ h => (by cases h), fun _ => ⟨_, _, _, if_neg (show ¬ _ from (by decide : ¬ (10 : Int) = 0))⟩⟩
      | some l =>
        have hy := (untie_some hu).1
        simp only
        rw [if_pos trivial, List.length_map]
        by_cases hl : l.length = 3
        · obtain ⟨k, m, t, rfl⟩ : ∃ k m t, l = [k, m, t] := by
            match l, hl with
            | [k, m, t], _ => exact ⟨k, m, t, rfl⟩
          have e2 : rdOf ByteArray.empty ([k, m, t].map str) 2 = str t := rfl
          have e1 : rdOf ByteArray.empty ([k, m, t].map str) 1 = str m := rfl
          have e0 : rdOf ByteArray.empty ([k, m, t].map str) 0 = str k := rfl
          have lm : m.length ≤ y.length := by rw [hy]; exact tie_mem (by simp)
          have lm1 : (str m).size ≤ 281474976710656 := by rw [str_size]; omega
          have c3 : ((([k, m, t] : List Txt).length : Nat) : Int) = 3 := rfl
          rw [c3, if_pos rfl, if_pos (by decide), e2, e1, e0, str_size, bs_toList, bs_of, bs_toList]
          simp only
          unfold maxLoad
          by_cases hk : k = bsL kd
          · rw [if_pos hk, if_pos (by decide : (2 : Int) < 3)]
            by_cases ht : 524288 < t.length
            · have ht2 : ((t.length : Nat) : Int) > 524288 := by omega
              rw [if_pos ht2, if_pos ht]
              exact ⟨fun _ _ _ _ h => (by cases h), fun _ => ⟨_, _, _, rfl⟩⟩
            · have ht2 : ¬ ((t.length : Nat) : Int) > 524288 := by omega
              rw [if_neg ht2, if_neg ht, if_pos (by decide : (1 : Int) < 3)]
              unfold furlongref01_Int.f
              rw [if_pos lm1, bs_of, rintF_eq]
              cases hi : intL m with
              | none =>
                simp only [Option.bind_some]
                exact ⟨fun _ _ _ _ h => (by cases h), fun _ => ⟨_, _, _, rfl⟩⟩
              | some n =>
                simp only [Option.bind_some]
                refine ⟨fun k' n' t' r' h => ?_, fun h => by cases h⟩
                injection h with h
                obtain ⟨h1, rfl⟩ := Prod.mk.inj h
                obtain ⟨rfl, h2⟩ := Prod.mk.inj h1
                obtain ⟨rfl, rfl⟩ := Prod.mk.inj h2
                rw [if_pos hk]
                rfl
          · rw [if_neg hk]
            refine ⟨fun k' n' t' r' h => ?_, fun _ => ⟨_, _, _, rfl⟩⟩
            split at h
            · cases h
            · split at h
              · injection h with h
                obtain ⟨h1, rfl⟩ := Prod.mk.inj h
                obtain ⟨rfl, h2⟩ := Prod.mk.inj h1
                rw [if_neg hk]
              · cases h
        · have hl2 : ¬ ((l.length : Nat) : Int) = 3 := by omega
          rw [if_neg hl2]
          refine ⟨fun k n t r h => ?_, fun _ => ⟨_, _, _, rfl⟩⟩
          split at h
          · rename_i k1 m1 t1 hq
            injection hq with hq
            exact absurd (by rw [hq]; rfl) hl
          · cases h
end Go.Proofs.YtjmejamgbinigaaGreatDoor
namespace Go.Proofs.YtjmejamgbinigaaGreatDoor
set_option linter.unusedVariables false
set_option linter.unusedSimpArgs false
open Go.RowKit Go.Lib Go.Proofs.YtjmejamgbinigaaGreatDoor.XRs Go.Proofs.YtjmejamgbinigaaGreatDoorW.PrintWords Go.Proofs.YtjmejamgbinigaaGreatDoorW.PrintLast Go.Proofs.YtjmejamgbinigaaGreatDoorW.PrintMore
theorem kRec_is : bsL (⟨#[114, 101, 99]⟩ : ByteArray) = kRec := rfl
theorem kBase_is : bsL (⟨#[98, 97, 115, 101]⟩ : ByteArray) = kBase := rfl
theorem qscan_l0 : ∀ (f : Nat) (s0 rest : ByteArray) (e : Int) (b : ByteArray) (acc : List ByteArray) (K : Nat), rest.size < f → f + s0.size + 31 ≤ K → acc.length + rest.size ≤ s0.size → s0.size ≤ 4294960000 → 0 < e →
    furlongref04_Scan.l0 K s0 e b rest acc = outS (scanGo f s0.size (bsL rest) e (bsL b) (acc.map bsL) (s0.size - rest.size))
  | 0, _, rest, _, _, _, _, h, _, _, _, _ => absurd h (by omega)
  | f + 1, s0, rest, e, b, acc, K, h, hK, hl, hs, he => by
    obtain ⟨K, rfl⟩ : ∃ j, K = j + 1 := ⟨K - 1, by omega⟩
    have z := bs_size rest
    have hw : wrap64 ((s0.size : Int) - (rest.size : Int)) = ((s0.size - rest.size : Nat) : Int) := by
      rw [wrap_id (by omega) (by omega)]
      omega
    have hw2 : wrap64 ((acc.length : Int) + 1) = (acc.length : Int) + 1 := wrap_id (by omega) (by omega)
    obtain ⟨p1, p2⟩ := qpage_eq (⟨#[114, 101, 99]⟩ : ByteArray) rest K (by omega) (by omega)
    rw [furlongref04_Scan.l0, hw, hw2, scanGo]
    cases hr : readL (bsL rest) with
    | none =>
      obtain ⟨x, y, u, hu⟩ := p2 hr
      rw [hu]
      exact out_stop e b acc _
    | some p =>
      obtain ⟨⟨k, n, t⟩, s'⟩ := p
      rw [p1 k n t s' hr, kRec_is]
      simp only [Option.bind_some]
      have hlen := read_len hr
      have he0 : ¬ (e = 0 ∧ k = kBase ∧ 1 ≤ n ∧ n ≤ topEpoch) := fun q => by have := q.1; omega
      rw [if_neg he0, List.length_map]
      by_cases hk : k = kRec
      · rw [if_pos hk]
        simp only
        rw [if_pos trivial]
        by_cases hn : n = (acc.length : Int) + 1
        · rw [if_pos hn, if_pos (by omega), if_pos ⟨he, hk, hn⟩]
          have ih := qscan_l0 f s0 (str s') e b (acc ++ [str t]) K (by rw [str_size]; omega) (by omega) (by rw [str_size, List.length_append, List.length_singleton]; omega) hs he
          rw [ih, bs_of, str_size]
          simp [bs_of]
        · rw [if_neg hn, if_neg (fun q => hn q.2.2)]
          exact out_stop e b acc _
      · rw [if_neg hk]
        simp only
        rw [if_neg (by decide), if_neg (fun q => hk q.2.1)]
        exact out_stop e b acc _
theorem qscan_eq (s : ByteArray) (K : Nat) (hs : s.size ≤ 4294960000) (hK : 2 * s.size + 100 ≤ K) : furlongref04_Scan.f K s = outS (scanL (bsL s)) := by
  obtain ⟨K, rfl⟩ : ∃ j, K = j + 1 := ⟨K - 1, by omega⟩
  have z := bs_size s
  obtain ⟨p1, p2⟩ := qpage_eq (⟨#[98, 97, 115, 101]⟩ : ByteArray) s (K + 1) hs (by omega)
  have hz : (some (0, (⟨#[]⟩ : ByteArray), ([] : List ByteArray), 0) : Option (Int × ByteArray × List ByteArray × Int)) = outS (0, [], [], 0) := rfl
  unfold furlongref04_Scan.f scanL
  rw [scanGo]
  cases hr : readL (bsL s) with
  | none =>
    obtain ⟨x, y, u, hu⟩ := p2 hr
    rw [hu]
    simp only [Option.bind_some]
    rw [if_neg (by decide), furlongref04_Scan.j0, if_pos rfl]
    exact hz
  | some p =>
    obtain ⟨⟨k, n, t⟩, s'⟩ := p
    rw [p1 k n t s' hr, kBase_is]
    simp only [Option.bind_some]
    have hlen := read_len hr
    have he1 : ¬ ((0 : Int) < 0 ∧ k = kRec ∧ n = (([] : List Txt).length : Int) + 1) := fun q => by have := q.1; omega
    rw [if_neg he1]
    by_cases hk : k = kBase
    · rw [if_pos hk]
      simp only
      rw [if_pos trivial]
      by_cases h1 : n < 1
      · rw [if_pos h1, furlongref04_Scan.j0, if_pos rfl, if_neg (fun q => by have := q.2.2.1; omega)]
        exact hz
      · rw [if_neg h1, furlongref04_Scan.j0]
        by_cases h2 : n ≤ topEpoch
        · have hd : decide (n > 4611686018427387904) = false := decide_eq_false (by unfold topEpoch at h2; omega)
          rw [hd, if_neg (by decide), if_pos ⟨trivial, hk, by omega, h2⟩]
          have ih := qscan_l0 (bsL s).length s (str s') n (str t) [] K (by rw [str_size]; omega) (by omega) (by rw [str_size, List.length_nil]; omega) hs (by omega)
          rw [ih, bs_of, bs_of, str_size, z]
          rfl
        · have hd : decide (n > 4611686018427387904) = true := decide_eq_true (by unfold topEpoch at h2; omega)
          rw [hd, if_pos rfl, if_neg (fun q => h2 q.2.2.2)]
          exact hz
    · rw [if_neg hk]
      simp only
      rw [if_neg (by decide), furlongref04_Scan.j0, if_pos rfl, if_neg (fun q => hk q.2.1)]
      exact hz
theorem rscan_call (x : ByteArray) (w : World) (hx : x.size ≤ 4194304) :
    Calls Tryz.prog 38 #[.string x] w fun e w' => ∃ A c, e = .returned (.tuple #[.int .i64 (scanL (bsL x)).1, .string (str (scanL (bsL x)).2.1), .slice A ((scanL (bsL x)).2.2.1.map str).length c, .int .i64 ((scanL (bsL x)).2.2.2 : Nat)]) ∧
      Kd.R Kd.string 9 w' w.heap.size (fun _ => True) (.slice A ((scanL (bsL x)).2.2.1.map str).length c) ((scanL (bsL x)).2.2.1.map str) ∧ Below w.heap.size w w' := by
  refine (furlongref04_Scan.calls (2 * x.size + 100) x _ _ _ _ w (qscan_eq x _ (by omega) (Nat.le_refl _))).mono ?_
  rintro e w' ⟨v, rfl, hR, hb⟩
  obtain ⟨A, c, rfl, _, _⟩ := Kd.R_reads hR
  exact ⟨A, c, rfl, hR, hb⟩
end Go.Proofs.YtjmejamgbinigaaGreatDoor
