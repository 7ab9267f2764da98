-- Written by wip/tools/xprint.py of this session, over the kit's print.
import Derived.Test.YtamalmopbncibaaDoorPKx0
import Derived.Test.YtamalmopbncibaaDoorPKx3
namespace Go.Proofs.YtamalmopbncibaaDoor.PK
open Go.RowKit Go.Proofs.YtamalmopbncibaaDoorW.PrintWords Go.Proofs.YtamalmopbncibaaDoorW.PrintLast Go.Proofs.YtamalmopbncibaaDoorW.PrintMore
attribute [local go_sem] max2_int min2_int max_two min_two max_three min_three max_four min_four   -- for this text's walks alone
set_option linter.unusedVariables false
set_option linter.unusedSimpArgs false

/-! ### wire_Get: function 20 -/
mutual
def wire_Get.j0 : Nat → ByteArray → Int → Bool → Option (Int × Int × Int)
  | 0, _, _, _ => none
  | k + 1, x0, x1, x18 => if x18 = true then (some (0, 0, 1)) else (if 0 ≤ x1 then (if x1 ≤ (x0.size : Int) then (if (x0.extract (x1 : Int).toNat x0.size).toList = ([] : List UInt8) then (some (0, 0, 2)) else (if 0 < ((x0.extract (x1 : Int).toNat x0.size).size : Int) then (if (bt (x0.extract (x1 : Int).toNat x0.size) 0) > 199 then (some (0, 0, 3)) else (if (bt (x0.extract (x1 : Int).toNat x0.size) 0) < 192 then (some (IntKind.u64.wrap (bt (x0.extract (x1 : Int).toNat x0.size) 0), wrap64 (x1 + 1), 0)) else (if ((x0.extract (x1 : Int).toNat x0.size).size : Int) ≤ (wrap64 ((wrap64 ((wrap64 (bt (x0.extract (x1 : Int).toNat x0.size) 0)) - 192)) + 1)) then (some (0, 0, 2)) else (wire_Get.l0 k x1 (x0.extract (x1 : Int).toNat x0.size) (wrap64 ((wrap64 ((wrap64 (bt (x0.extract (x1 : Int).toNat x0.size) 0)) - 192)) + 1)) 0 (wrap64 ((wrap64 ((wrap64 (bt (x0.extract (x1 : Int).toNat x0.size) 0)) - 192)) + 1)) 0)))) else (none))) else (none)) else (none))
def wire_Get.l0 : Nat → Int → ByteArray → Int → Int → Int → Int → Option (Int × Int × Int)
  | 0, _, _, _, _, _, _ => none
  | k + 1, x1, x7, x8, x9, x47, x48 => if x48 < x47 then (if 0 ≤ (wrap64 (1 + x48)) then (if (wrap64 (1 + x48)) < (x7.size : Int) then (wire_Get.l0 k x1 x7 x8 (Go.bits .or .u64 (IntKind.u64.wrap (x9 * 256)) (IntKind.u64.wrap (bt x7 (wrap64 (1 + x48))))) x47 (wrap64 (x48 + 1))) else (none)) else (none)) else (if x9 < 192 then (some (0, 0, 3)) else (if 1 < (x7.size : Int) then (if (bt x7 1) = 0 then (some (0, 0, 3)) else (some (x9, wrap64 ((wrap64 (x1 + 1)) + x8), 0))) else (none)))
end
def wire_Get.f (k : Nat) (a0 : ByteArray) (a1 : Int) : Option (Int × Int × Int) := if a1 < 0 then (wire_Get.j0 k a0 a1 true) else (wire_Get.j0 k a0 a1 (decide (a1 > (a0.size : Int))))
theorem wire_Get.mono_l : ∀ k, (∀ y0 y1 y2, LeO (wire_Get.j0 k y0 y1 y2) (wire_Get.j0 (k + 1) y0 y1 y2)) ∧ (∀ y0 y1 y2 y3 y4 y5, LeO (wire_Get.l0 k y0 y1 y2 y3 y4 y5) (wire_Get.l0 (k + 1) y0 y1 y2 y3 y4 y5))
  | 0 => ⟨fun _ _ _ r h => by simp [wire_Get.j0] at h, fun _ _ _ _ _ _ r h => by simp [wire_Get.l0] at h⟩
  | k + 1 => by
    obtain ⟨ih0, ih1⟩ := wire_Get.mono_l k
    refine ⟨?_, ?_⟩
    · intro y0 y1 y2
      unfold wire_Get.j0
      repeat' first
      | (with_reducible exact ih0 _ _ _)
      | (with_reducible exact ih1 _ _ _ _ _ _)
      | (with_reducible exact LeO.refl _)
      | (with_reducible exact LeO.none _)
      | (with_reducible refine LeO.ite ?_ ?_)
      | (with_reducible refine LeO.bind ?_ (fun _ => ?_))
      | exact ih0 _ _ _
      | exact ih1 _ _ _ _ _ _
      | exact LeO.none _
      | refine LeO.ite ?_ ?_
      | refine LeO.bind ?_ (fun _ => ?_)
    · intro y0 y1 y2 y3 y4 y5
      unfold wire_Get.l0
      repeat' first
      | (with_reducible exact ih0 _ _ _)
      | (with_reducible exact ih1 _ _ _ _ _ _)
      | (with_reducible exact LeO.refl _)
      | (with_reducible exact LeO.none _)
      | (with_reducible refine LeO.ite ?_ ?_)
      | (with_reducible refine LeO.bind ?_ (fun _ => ?_))
      | exact ih0 _ _ _
      | exact ih1 _ _ _ _ _ _
      | exact LeO.none _
      | refine LeO.ite ?_ ?_
      | refine LeO.bind ?_ (fun _ => ?_)
theorem wire_Get.mono : ∀ a0 a1 k, LeO (wire_Get.f k a0 a1) (wire_Get.f (k + 1) a0 a1) := by
  intro a0 a1 k
  obtain ⟨ih0, ih1⟩ := wire_Get.mono_l k
  unfold wire_Get.f
  repeat' first
      | (with_reducible exact ih0 _ _ _)
      | (with_reducible exact ih1 _ _ _ _ _ _)
      | (with_reducible exact LeO.refl _)
      | (with_reducible exact LeO.none _)
      | (with_reducible refine LeO.ite ?_ ?_)
      | (with_reducible refine LeO.bind ?_ (fun _ => ?_))
      | exact ih0 _ _ _
      | exact ih1 _ _ _ _ _ _
      | exact LeO.none _
      | refine LeO.ite ?_ ?_
      | refine LeO.bind ?_ (fun _ => ?_)
set_option maxHeartbeats 8000000 in
set_option maxRecDepth 100000 in
theorem wire_Get.calls (k : Nat) (a0 : ByteArray) (a1 : Int) (r1 : Int) (r2 : Int) (r3 : Int) (w : World) (h : wire_Get.f k a0 a1 = some (r1, r2, r3)) :
    Calls Tryd.prog 20 #[.string a0, .int .i64 a1] w fun e w' => e = .returned (.tuple #[.int .u64 r1, .int .i64 r2, .int .i64 r3]) ∧ Drawn0 w w' := by
  have H : (if a1 < 0 then (wire_Get.j0 k a0 a1 true) else (wire_Get.j0 k a0 a1 (decide (a1 > (a0.size : Int))))) = some (r1, r2, r3) := h
  clear h
  have HC3 := Aside0.mk H
  clear H
  go_enter Tryd.func20, Tryd.ntmps20
  go_upto_region 1 with (fail)
  go_cut [18] (fun v18 wc => ∃ (kq : Nat) (x18_2 : Bool), v18 = .bool x18_2 ∧ Aside0 (wire_Get.j0 kq a0 a1 x18_2 = some (r1, r2, r3)) ∧ Aside0 (kq ≤ k) ∧ Drawn0 w wc)
  case first =>
    have H := HC3.out
    clear HC3
    by_cases c4 : a1 < 0
    · rw [if_pos c4] at H
      have c4b0 : decide (a1 < 0) = true := decide_eq_true c4
      clear c4
      (first | rw [c4b0] | rw [c4b3] | rw [c4b2] | (simp only [i64_w, i32_w]; rw [c4b0]) | skip)
      have H' := Aside0.mk H
      clear H
      go_wp2
      go_meet
      case rel => exact ⟨_, (true), (by first | rfl | (simp; done) | (simp [*]; done)), H', ⟨by first | omega | exact Nat.le_refl _⟩, by repeat (first | exact Drawn0.refl _ | apply Drawn0.step)⟩
    · rw [if_neg c4] at H
      have c4b0 : decide (a1 < 0) = false := decide_eq_false c4
      clear c4
      (first | rw [c4b0] | rw [c4b3] | rw [c4b2] | (simp only [i64_w, i32_w]; rw [c4b0]) | skip)
      have H' := Aside0.mk H
      clear H
      go_wp2
      go_meet
      case rel => exact ⟨_, (decide (a1 > (a0.size : Int))), (by first | rfl | (simp; done) | (simp [*]; done)), H', ⟨by first | omega | exact Nat.le_refl _⟩, by repeat (first | exact Drawn0.refl _ | apply Drawn0.step)⟩
  case rest =>
    clear HC3
    try clear c2
    try clear p2
    try clear c4
    try clear c4b0
    try clear c4b2
    obtain ⟨kq, x18_2, rfl, HA, HJ2, ⟨mc2, rfl⟩⟩ := hcut
    cases kq with
    | zero => exact absurd HA.out (by simp [wire_Get.j0])
    | succ kj2 =>
      have H := HA.out
      clear HA
      simp only [wire_Get.j0] at H
      by_cases c5 : x18_2 = true
      · subst c5
        have H1 : (some (0, 0, 1)) = some (r1, r2, r3) := by rw [if_pos rfl] at H; exact H
        clear H
        have H := H1
        clear H1
        simp only [Option.some.injEq, Prod.mk.injEq] at H
        obtain ⟨rfl, rfl, rfl⟩ := H
        go_wp2
        go_ret3
        exact ⟨by first | rfl | (simp; done) | (simp [*]; done), by repeat (first | exact Drawn0.refl _ | apply Drawn0.step)⟩
      · replace c5 := Bool.eq_false_iff.mpr c5
        subst c5
        have H1 : (if 0 ≤ a1 then (if a1 ≤ (a0.size : Int) then (if (a0.extract (a1 : Int).toNat a0.size).toList = ([] : List UInt8) then (some (0, 0, 2)) else (if 0 < ((a0.extract (a1 : Int).toNat a0.size).size : Int) then (if (bt (a0.extract (a1 : Int).toNat a0.size) 0) > 199 then (some (0, 0, 3)) else (if (bt (a0.extract (a1 : Int).toNat a0.size) 0) < 192 then (some (IntKind.u64.wrap (bt (a0.extract (a1 : Int).toNat a0.size) 0), wrap64 (a1 + 1), 0)) else (if ((a0.extract (a1 : Int).toNat a0.size).size : Int) ≤ (wrap64 ((wrap64 ((wrap64 (bt (a0.extract (a1 : Int).toNat a0.size) 0)) - 192)) + 1)) then (some (0, 0, 2)) else (wire_Get.l0 kj2 a1 (a0.extract (a1 : Int).toNat a0.size) (wrap64 ((wrap64 ((wrap64 (bt (a0.extract (a1 : Int).toNat a0.size) 0)) - 192)) + 1)) 0 (wrap64 ((wrap64 ((wrap64 (bt (a0.extract (a1 : Int).toNat a0.size) 0)) - 192)) + 1)) 0)))) else (none))) else (none)) else (none)) = some (r1, r2, r3) := by rw [if_neg (show ¬ (false = true) by decide)] at H; exact H
        clear H
        have H := H1
        clear H1
        obtain ⟨c6, H⟩ := ite_yes_ H
        have c6b0 := eq_true c6
        have c6b1 : decide (0 ≤ a1) = true := decide_eq_true c6
        clear c6
        obtain ⟨c7, H⟩ := ite_yes_ H
        have c7b0 := eq_true c7
        have c7b1 : decide (a1 ≤ (a0.size : Int)) = true := decide_eq_true c7
        clear c7
        by_cases c8 : (a0.extract (a1 : Int).toNat a0.size).toList = ([] : List UInt8)
        · rw [if_pos c8] at H
          have c8b0 : ((a0.extract (a1 : Int).toNat a0.size).toList == ([] : List UInt8)) = true := beq_iff_eq.mpr c8
          have c8b1 : ((a0.extract (a1 : Int).toNat a0.size).toList != ([] : List UInt8)) = false := bne_eq_false_iff_eq.mpr c8
          clear c8
          simp only [Option.some.injEq, Prod.mk.injEq] at H
          obtain ⟨rfl, rfl, rfl⟩ := H
          go_wp2
          go_ret3
          exact ⟨by first | rfl | (simp; done) | (simp [*]; done), by repeat (first | exact Drawn0.refl _ | apply Drawn0.step)⟩
        · rw [if_neg c8] at H
          have c8b0 : ((a0.extract (a1 : Int).toNat a0.size).toList == ([] : List UInt8)) = false := beq_eq_false_iff_ne.mpr c8
          have c8b1 : ((a0.extract (a1 : Int).toNat a0.size).toList != ([] : List UInt8)) = true := bne_iff_ne.mpr c8
          obtain ⟨c9, H⟩ := ite_yes_ H
          have c9b0 : decide (0 < ((a0.extract (a1 : Int).toNat a0.size).size : Int)) = true := decide_eq_true c9
          have c9b1 : decide (0 < (a0.extract (a1 : Int).toNat a0.size).size) = true := decide_eq_true (by omega)
          have c9b2 : 0 < ((a0.size - (a1 : Int).toNat : Nat) : Int) := by have h_ := c9; rw [show (a0.extract (a1 : Int).toNat a0.size).size = (a0.size - (a1 : Int).toNat : Nat) from by simp] at h_; exact h_
          clear c9
          by_cases c11 : (bt (a0.extract (a1 : Int).toNat a0.size) 0) > 199
          · rw [if_pos c11] at H
            have c11b0 : decide (199 < (bt (a0.extract (a1 : Int).toNat a0.size) 0)) = true := decide_eq_true c11
            clear c11
            simp only [Option.some.injEq, Prod.mk.injEq] at H
            obtain ⟨rfl, rfl, rfl⟩ := H
            have p10 : 0 ≤ (0 : Int) := (by omega)
            have q10 : 0 < (a0.extract (a1 : Int).toNat a0.size).size := (by have : (0 : Int) < ((a0.extract (a1 : Int).toNat a0.size).size : Int) := of_decide_eq_true (by first | (with_reducible assumption) | assumption); omega)
            have hx10 : ∀ h : 0 < (a0.extract (a1 : Int).toNat a0.size).size, (((a0.extract (a1 : Int).toNat a0.size)[0]'h).toNat : Int) = bt (a0.extract (a1 : Int).toNat a0.size) 0 := bt_at (a0.extract (a1 : Int).toNat a0.size) 0
            clear p10
            have qi10 : (0 < ((a0.extract (a1 : Int).toNat a0.size).size : Int)) = True := eq_true (of_decide_eq_true (by first | (with_reducible assumption) | assumption))
            replace q10 := eq_true q10
            go_wp2
            go_ret3
            exact ⟨by first | rfl | (simp; done) | (simp [*]; done), by repeat (first | exact Drawn0.refl _ | apply Drawn0.step)⟩
          · rw [if_neg c11] at H
            have c11b0 : decide (199 < (bt (a0.extract (a1 : Int).toNat a0.size) 0)) = false := decide_eq_false c11
            clear c11
            by_cases c13 : (bt (a0.extract (a1 : Int).toNat a0.size) 0) < 192
            · rw [if_pos c13] at H
              have c13b0 : decide ((bt (a0.extract (a1 : Int).toNat a0.size) 0) < 192) = true := decide_eq_true c13
              clear c13
              simp only [Option.some.injEq, Prod.mk.injEq] at H
              obtain ⟨rfl, rfl, rfl⟩ := H
              have p10 : 0 ≤ (0 : Int) := (by omega)
              have q10 : 0 < (a0.extract (a1 : Int).toNat a0.size).size := (by have : (0 : Int) < ((a0.extract (a1 : Int).toNat a0.size).size : Int) := of_decide_eq_true (by first | (with_reducible assumption) | assumption); omega)
              have hx10 : ∀ h : 0 < (a0.extract (a1 : Int).toNat a0.size).size, (((a0.extract (a1 : Int).toNat a0.size)[0]'h).toNat : Int) = bt (a0.extract (a1 : Int).toNat a0.size) 0 := bt_at (a0.extract (a1 : Int).toNat a0.size) 0
              clear p10
              have qi10 : (0 < ((a0.extract (a1 : Int).toNat a0.size).size : Int)) = True := eq_true (of_decide_eq_true (by first | (with_reducible assumption) | assumption))
              replace q10 := eq_true q10
              have p12 : 0 ≤ (0 : Int) := (by omega)
              have q12 : 0 < (a0.extract (a1 : Int).toNat a0.size).size := (by have : (0 : Int) < ((a0.extract (a1 : Int).toNat a0.size).size : Int) := of_decide_eq_true (by first | (with_reducible assumption) | assumption); omega)
              have hx12 : ∀ h : 0 < (a0.extract (a1 : Int).toNat a0.size).size, (((a0.extract (a1 : Int).toNat a0.size)[0]'h).toNat : Int) = bt (a0.extract (a1 : Int).toNat a0.size) 0 := bt_at (a0.extract (a1 : Int).toNat a0.size) 0
              clear p12
              have qi12 : (0 < ((a0.extract (a1 : Int).toNat a0.size).size : Int)) = True := eq_true (of_decide_eq_true (by first | (with_reducible assumption) | assumption))
              replace q12 := eq_true q12
              have p14 : 0 ≤ (0 : Int) := (by omega)
              have q14 : 0 < (a0.extract (a1 : Int).toNat a0.size).size := (by have : (0 : Int) < ((a0.extract (a1 : Int).toNat a0.size).size : Int) := of_decide_eq_true (by first | (with_reducible assumption) | assumption); omega)
              have hx14 : ∀ h : 0 < (a0.extract (a1 : Int).toNat a0.size).size, (((a0.extract (a1 : Int).toNat a0.size)[0]'h).toNat : Int) = bt (a0.extract (a1 : Int).toNat a0.size) 0 := bt_at (a0.extract (a1 : Int).toNat a0.size) 0
              clear p14
              have qi14 : (0 < ((a0.extract (a1 : Int).toNat a0.size).size : Int)) = True := eq_true (of_decide_eq_true (by first | (with_reducible assumption) | assumption))
              replace q14 := eq_true q14
              go_wp2
              go_ret3
              exact ⟨by first | rfl | (simp; done) | (simp [*]; done), by repeat (first | exact Drawn0.refl _ | apply Drawn0.step)⟩
            · rw [if_neg c13] at H
              have c13b0 : decide ((bt (a0.extract (a1 : Int).toNat a0.size) 0) < 192) = false := decide_eq_false c13
              clear c13
              by_cases c16 : ((a0.extract (a1 : Int).toNat a0.size).size : Int) ≤ (wrap64 ((wrap64 ((wrap64 (bt (a0.extract (a1 : Int).toNat a0.size) 0)) - 192)) + 1))
              · rw [if_pos c16] at H
                have c16b0 : decide (((a0.extract (a1 : Int).toNat a0.size).size : Int) ≤ (wrap64 ((wrap64 ((wrap64 (bt (a0.extract (a1 : Int).toNat a0.size) 0)) - 192)) + 1))) = true := decide_eq_true c16
                have c16b1 : ((a0.size - (a1 : Int).toNat : Nat) : Int) ≤ (wrap64 ((wrap64 ((wrap64 (bt (a0.extract (a1 : Int).toNat a0.size) 0)) - 192)) + 1)) := by have h_ := c16; rw [show (a0.extract (a1 : Int).toNat a0.size).size = (a0.size - (a1 : Int).toNat : Nat) from by simp] at h_; exact h_
                clear c16
                simp only [Option.some.injEq, Prod.mk.injEq] at H
                obtain ⟨rfl, rfl, rfl⟩ := H
                have p10 : 0 ≤ (0 : Int) := (by omega)
                have q10 : 0 < (a0.extract (a1 : Int).toNat a0.size).size := (by have : (0 : Int) < ((a0.extract (a1 : Int).toNat a0.size).size : Int) := of_decide_eq_true (by first | (with_reducible assumption) | assumption); omega)
                have hx10 : ∀ h : 0 < (a0.extract (a1 : Int).toNat a0.size).size, (((a0.extract (a1 : Int).toNat a0.size)[0]'h).toNat : Int) = bt (a0.extract (a1 : Int).toNat a0.size) 0 := bt_at (a0.extract (a1 : Int).toNat a0.size) 0
                clear p10
                have qi10 : (0 < ((a0.extract (a1 : Int).toNat a0.size).size : Int)) = True := eq_true (of_decide_eq_true (by first | (with_reducible assumption) | assumption))
                replace q10 := eq_true q10
                have p12 : 0 ≤ (0 : Int) := (by omega)
                have q12 : 0 < (a0.extract (a1 : Int).toNat a0.size).size := (by have : (0 : Int) < ((a0.extract (a1 : Int).toNat a0.size).size : Int) := of_decide_eq_true (by first | (with_reducible assumption) | assumption); omega)
                have hx12 : ∀ h : 0 < (a0.extract (a1 : Int).toNat a0.size).size, (((a0.extract (a1 : Int).toNat a0.size)[0]'h).toNat : Int) = bt (a0.extract (a1 : Int).toNat a0.size) 0 := bt_at (a0.extract (a1 : Int).toNat a0.size) 0
                clear p12
                have qi12 : (0 < ((a0.extract (a1 : Int).toNat a0.size).size : Int)) = True := eq_true (of_decide_eq_true (by first | (with_reducible assumption) | assumption))
                replace q12 := eq_true q12
                have p15 : 0 ≤ (0 : Int) := (by omega)
                have q15 : 0 < (a0.extract (a1 : Int).toNat a0.size).size := (by have : (0 : Int) < ((a0.extract (a1 : Int).toNat a0.size).size : Int) := of_decide_eq_true (by first | (with_reducible assumption) | assumption); omega)
                have hx15 : ∀ h : 0 < (a0.extract (a1 : Int).toNat a0.size).size, (((a0.extract (a1 : Int).toNat a0.size)[0]'h).toNat : Int) = bt (a0.extract (a1 : Int).toNat a0.size) 0 := bt_at (a0.extract (a1 : Int).toNat a0.size) 0
                clear p15
                have qi15 : (0 < ((a0.extract (a1 : Int).toNat a0.size).size : Int)) = True := eq_true (of_decide_eq_true (by first | (with_reducible assumption) | assumption))
                replace q15 := eq_true q15
                go_wp2
                go_ret3
                exact ⟨by first | rfl | (simp; done) | (simp [*]; done), by repeat (first | exact Drawn0.refl _ | apply Drawn0.step)⟩
              · rw [if_neg c16] at H
                have c16b0 : decide (((a0.extract (a1 : Int).toNat a0.size).size : Int) ≤ (wrap64 ((wrap64 ((wrap64 (bt (a0.extract (a1 : Int).toNat a0.size) 0)) - 192)) + 1))) = false := decide_eq_false c16
                have c16b1 : ¬ (((a0.size - (a1 : Int).toNat : Nat) : Int) ≤ (wrap64 ((wrap64 ((wrap64 (bt (a0.extract (a1 : Int).toNat a0.size) 0)) - 192)) + 1))) := by have h_ := c16; rw [show (a0.extract (a1 : Int).toNat a0.size).size = (a0.size - (a1 : Int).toNat : Nat) from by simp] at h_; exact h_
                clear c16
                have H' := Aside0.mk H
                clear H
                have p10 : 0 ≤ (0 : Int) := (by omega)
                have q10 : 0 < (a0.extract (a1 : Int).toNat a0.size).size := (by have : (0 : Int) < ((a0.extract (a1 : Int).toNat a0.size).size : Int) := of_decide_eq_true (by first | (with_reducible assumption) | assumption); omega)
                have hx10 : ∀ h : 0 < (a0.extract (a1 : Int).toNat a0.size).size, (((a0.extract (a1 : Int).toNat a0.size)[0]'h).toNat : Int) = bt (a0.extract (a1 : Int).toNat a0.size) 0 := bt_at (a0.extract (a1 : Int).toNat a0.size) 0
                clear p10
                have qi10 : (0 < ((a0.extract (a1 : Int).toNat a0.size).size : Int)) = True := eq_true (of_decide_eq_true (by first | (with_reducible assumption) | assumption))
                replace q10 := eq_true q10
                have p12 : 0 ≤ (0 : Int) := (by omega)
                have q12 : 0 < (a0.extract (a1 : Int).toNat a0.size).size := (by have : (0 : Int) < ((a0.extract (a1 : Int).toNat a0.size).size : Int) := of_decide_eq_true (by first | (with_reducible assumption) | assumption); omega)
                have hx12 : ∀ h : 0 < (a0.extract (a1 : Int).toNat a0.size).size, (((a0.extract (a1 : Int).toNat a0.size)[0]'h).toNat : Int) = bt (a0.extract (a1 : Int).toNat a0.size) 0 := bt_at (a0.extract (a1 : Int).toNat a0.size) 0
                clear p12
                have qi12 : (0 < ((a0.extract (a1 : Int).toNat a0.size).size : Int)) = True := eq_true (of_decide_eq_true (by first | (with_reducible assumption) | assumption))
                replace q12 := eq_true q12
                have p15 : 0 ≤ (0 : Int) := (by omega)
                have q15 : 0 < (a0.extract (a1 : Int).toNat a0.size).size := (by have : (0 : Int) < ((a0.extract (a1 : Int).toNat a0.size).size : Int) := of_decide_eq_true (by first | (with_reducible assumption) | assumption); omega)
                have hx15 : ∀ h : 0 < (a0.extract (a1 : Int).toNat a0.size).size, (((a0.extract (a1 : Int).toNat a0.size)[0]'h).toNat : Int) = bt (a0.extract (a1 : Int).toNat a0.size) 0 := bt_at (a0.extract (a1 : Int).toNat a0.size) 0
                clear p15
                have qi15 : (0 < ((a0.extract (a1 : Int).toNat a0.size).size : Int)) = True := eq_true (of_decide_eq_true (by first | (with_reducible assumption) | assumption))
                replace q15 := eq_true q15
                go_wp2
                go_loopg [9, 48] kj2 (fun kq v9 v48 w' => ∃ (x9_2 : Int) (x48_2 : Int), v9 = .int .u64 x9_2 ∧ v48 = .int .i64 x48_2 ∧ Aside0 (wire_Get.l0 kq a1 (a0.extract (a1 : Int).toNat a0.size) (wrap64 ((wrap64 ((wrap64 (bt (a0.extract (a1 : Int).toNat a0.size) 0)) - 192)) + 1)) x9_2 (wrap64 ((wrap64 ((wrap64 (bt (a0.extract (a1 : Int).toNat a0.size) 0)) - 192)) + 1)) x48_2 = some (r1, r2, r3)) ∧ Aside0 (kq ≤ kj2) ∧ Drawn0 w w')
                case atStart => exact ⟨(0), (0), (by first | rfl | (simp; done) | (simp [*]; done)), (by first | rfl | (simp; done) | (simp [*]; done)), H', ⟨Nat.le_refl _⟩, by repeat (first | exact Drawn0.refl _ | apply Drawn0.step)⟩
                case round =>
                  clear H'
                  try clear c1
                  try clear p1
                  try clear q1
                  try clear hx1
                  try clear qi1
                  try clear c2
                  try clear p2
                  try clear c4
                  try clear c4b0
                  try clear c4b2
                  try clear c5
                  try clear c6
                  try clear c6b0
                  try clear c6b1
                  try clear p6
                  try clear c7
                  try clear c7b0
                  try clear c7b1
                  try clear c8
                  try clear c8b0
                  try clear c8b1
                  try clear c9
                  try clear c9b0
                  try clear c9b1
                  try clear c9b2
                  try clear p10
                  try clear q10
                  try clear hx10
                  try clear qi10
                  try clear c11
                  try clear c11b0
                  try clear p12
                  try clear q12
                  try clear hx12
                  try clear qi12
                  try clear c13
                  try clear c13b0
                  try clear p14
                  try clear q14
                  try clear hx14
                  try clear qi14
                  try clear p15
                  try clear q15
                  try clear hx15
                  try clear qi15
                  try clear c16
                  try clear c16b0
                  try clear c16b1
                  try clear p10
                  try clear p12
                  try clear p14
                  try clear p15
                  try clear p2
                  try clear q10
                  try clear q12
                  try clear q14
                  try clear q15
                  obtain ⟨x9_2, x48_2, rfl, rfl, HA, HK2, ⟨m2, rfl⟩⟩ := hrel
                  cases gk with
                  | zero => exact absurd HA.out (by simp [wire_Get.l0])
                  | succ k2 =>
                    have H := HA.out
                    clear HA
                    simp only [wire_Get.l0] at H
                    by_cases c17 : x48_2 < (wrap64 ((wrap64 ((wrap64 (bt (a0.extract (a1 : Int).toNat a0.size) 0)) - 192)) + 1))
                    · rw [if_pos c17] at H
                      have c17b0 : decide (x48_2 < (wrap64 ((wrap64 ((wrap64 (bt (a0.extract (a1 : Int).toNat a0.size) 0)) - 192)) + 1))) = true := decide_eq_true c17
                      clear c17
                      obtain ⟨ji18, hji18⟩ : ∃ j_ : Int, (wrap64 (1 + x48_2)) = j_ := ⟨_, rfl⟩
                      replace H : (if 0 ≤ (ji18) then (if (ji18) < ((a0.extract (a1 : Int).toNat a0.size).size : Int) then (wire_Get.l0 k2 a1 (a0.extract (a1 : Int).toNat a0.size) (wrap64 ((wrap64 ((wrap64 (bt (a0.extract (a1 : Int).toNat a0.size) 0)) - 192)) + 1)) (Go.bits .or .u64 (IntKind.u64.wrap (x9_2 * 256)) (IntKind.u64.wrap (bt (a0.extract (a1 : Int).toNat a0.size) (ji18)))) (wrap64 ((wrap64 ((wrap64 (bt (a0.extract (a1 : Int).toNat a0.size) 0)) - 192)) + 1)) (wrap64 (x48_2 + 1))) else (none)) else (none)) = some (r1, r2, r3) := by first | (rw [hji18] at H; exact H) | (simp only [hji18] at H ⊢; exact H)
                      have hji18w : (IntKind.i64.wrap (1 + x48_2)) = ji18 := (i64_w _).trans hji18
                      obtain ⟨c19, H⟩ := ite_yes_ H
                      have c19b0 : decide (0 ≤ (ji18)) = true := decide_eq_true c19
                      clear c19
                      obtain ⟨c20, H⟩ := ite_yes_ H
                      have c20b0 : decide ((ji18) < ((a0.extract (a1 : Int).toNat a0.size).size : Int)) = true := decide_eq_true c20
                      have c20b1 : (ji18) < ((a0.size - (a1 : Int).toNat : Nat) : Int) := by have h_ := c20; rw [show (a0.extract (a1 : Int).toNat a0.size).size = (a0.size - (a1 : Int).toNat : Nat) from by simp] at h_; exact h_
                      clear c20
                      have H' := Aside0.mk H
                      clear H
                      have p21 : 0 ≤ ((ji18) : Int) := of_decide_eq_true (by first | (with_reducible assumption) | assumption)
                      have q21 : (ji18) < ((a0.extract (a1 : Int).toNat a0.size).size : Int) := of_decide_eq_true (by first | (with_reducible assumption) | assumption)
                      have hx21 := bt_at (a0.extract (a1 : Int).toNat a0.size) (ji18)
                      replace p21 := eq_true p21
                      replace q21 := eq_true q21
                      go_wp2
                      go_roundg k2
                      case measure => have := HJ2.out; have := HK2.out; omega
                      case rel => exact ⟨(Go.bits .or .u64 (IntKind.u64.wrap (x9_2 * 256)) (IntKind.u64.wrap (bt (a0.extract (a1 : Int).toNat a0.size) (ji18)))), (wrap64 (x48_2 + 1)), (by first | rfl | (simp; done) | (simp only [← hji18] <;> (first | rfl | simp)) | (simp [*]; done)), (by first | rfl | (simp; done) | (simp [*]; done)), H', ⟨by have := HJ2.out; have := HK2.out; omega⟩, by repeat (first | exact Drawn0.refl _ | apply Drawn0.step)⟩
                    · rw [if_neg c17] at H
                      have c17b0 : decide (x48_2 < (wrap64 ((wrap64 ((wrap64 (bt (a0.extract (a1 : Int).toNat a0.size) 0)) - 192)) + 1))) = false := decide_eq_false c17
                      clear c17
                      by_cases c22 : x9_2 < 192
                      · rw [if_pos c22] at H
                        have c22b0 : decide (x9_2 < 192) = true := decide_eq_true c22
                        clear c22
                        simp only [Option.some.injEq, Prod.mk.injEq] at H
                        obtain ⟨rfl, rfl, rfl⟩ := H
                        go_wp2
                        go_ret3
                        exact ⟨by first | rfl | (simp; done) | (simp [*]; done), by repeat (first | exact Drawn0.refl _ | apply Drawn0.step)⟩
                      · rw [if_neg c22] at H
                        have c22b0 : decide (x9_2 < 192) = false := decide_eq_false c22
                        clear c22
                        obtain ⟨c23, H⟩ := ite_yes_ H
                        have c23b0 : decide (1 < ((a0.extract (a1 : Int).toNat a0.size).size : Int)) = true := decide_eq_true c23
                        have c23b1 : decide (1 < (a0.extract (a1 : Int).toNat a0.size).size) = true := decide_eq_true (by omega)
                        have c23b2 : 1 < ((a0.size - (a1 : Int).toNat : Nat) : Int) := by have h_ := c23; rw [show (a0.extract (a1 : Int).toNat a0.size).size = (a0.size - (a1 : Int).toNat : Nat) from by simp] at h_; exact h_
                        clear c23
                        by_cases c25 : (bt (a0.extract (a1 : Int).toNat a0.size) 1) = 0
                        · rw [if_pos c25] at H
                          have c25b0 : ((bt (a0.extract (a1 : Int).toNat a0.size) 1) == 0) = true := beq_iff_eq.mpr c25
                          have c25b1 : ((bt (a0.extract (a1 : Int).toNat a0.size) 1) != 0) = false := bne_eq_false_iff_eq.mpr c25
                          clear c25
                          simp only [Option.some.injEq, Prod.mk.injEq] at H
                          obtain ⟨rfl, rfl, rfl⟩ := H
                          have p24 : 0 ≤ (1 : Int) := (by omega)
                          have q24 : 1 < (a0.extract (a1 : Int).toNat a0.size).size := (by have : (1 : Int) < ((a0.extract (a1 : Int).toNat a0.size).size : Int) := of_decide_eq_true (by first | (with_reducible assumption) | assumption); omega)
                          have hx24 : ∀ h : 1 < (a0.extract (a1 : Int).toNat a0.size).size, (((a0.extract (a1 : Int).toNat a0.size)[1]'h).toNat : Int) = bt (a0.extract (a1 : Int).toNat a0.size) 1 := bt_at (a0.extract (a1 : Int).toNat a0.size) 1
                          clear p24
                          have qi24 : (1 < ((a0.extract (a1 : Int).toNat a0.size).size : Int)) = True := eq_true (of_decide_eq_true (by first | (with_reducible assumption) | assumption))
                          replace q24 := eq_true q24
                          go_wp2
                          go_ret3
                          exact ⟨by first | rfl | (simp; done) | (simp [*]; done), by repeat (first | exact Drawn0.refl _ | apply Drawn0.step)⟩
                        · rw [if_neg c25] at H
                          have c25b0 : ((bt (a0.extract (a1 : Int).toNat a0.size) 1) == 0) = false := beq_eq_false_iff_ne.mpr c25
                          have c25b1 : ((bt (a0.extract (a1 : Int).toNat a0.size) 1) != 0) = true := bne_iff_ne.mpr c25
                          simp only [Option.some.injEq, Prod.mk.injEq] at H
                          obtain ⟨rfl, rfl, rfl⟩ := H
                          have p24 : 0 ≤ (1 : Int) := (by omega)
                          have q24 : 1 < (a0.extract (a1 : Int).toNat a0.size).size := (by have : (1 : Int) < ((a0.extract (a1 : Int).toNat a0.size).size : Int) := of_decide_eq_true (by first | (with_reducible assumption) | assumption); omega)
                          have hx24 : ∀ h : 1 < (a0.extract (a1 : Int).toNat a0.size).size, (((a0.extract (a1 : Int).toNat a0.size)[1]'h).toNat : Int) = bt (a0.extract (a1 : Int).toNat a0.size) 1 := bt_at (a0.extract (a1 : Int).toNat a0.size) 1
                          clear p24
                          have qi24 : (1 < ((a0.extract (a1 : Int).toNat a0.size).size : Int)) = True := eq_true (of_decide_eq_true (by first | (with_reducible assumption) | assumption))
                          replace q24 := eq_true q24
                          go_wp2
                          go_ret3
                          exact ⟨by first | rfl | (simp; done) | (simp [*]; done), by repeat (first | exact Drawn0.refl _ | apply Drawn0.step)⟩

/-! ### pack_tokens: function 21 -/
def pack_tokens.l0 : Nat → ByteArray → Int → List (S43) → Int → Int → Int → Option ((List (S43)) × Int × Int)
  | 0, _, _, _, _, _, _ => none
  | k + 1, x0, x1, x9, x10, x14, x15 => if x15 < x14 then ((wire_Get.f k x0 x1).bind fun bt118 => (if bt118.2.2 = 0 then (if bt118.1 > 4294967296 then (some (x9, x1, 3)) else (if x9.length < 8796093022208 then (pack_tokens.l0 k x0 bt118.2.1 (x9 ++ [(⟨wrap64 (Int.tmod bt118.1 6), wrap64 (IntKind.u64.wrap (Int.tdiv bt118.1 6))⟩ : S43)]) x10 x14 (IntKind.u64.wrap (x15 + 1))) else (none))) else (some (x9, x1, bt118.2.2)))) else (some (x9, x1, x10))
def pack_tokens.f (k : Nat) (a0 : ByteArray) (a1 : Int) (a2 : Int) : Option ((List (S43)) × Int × Int) := pack_tokens.l0 k a0 a1 ([] : List (S43)) 0 a2 0
theorem pack_tokens.mono_l : ∀ k, (∀ y0 y1 y2 y3 y4 y5, LeO (pack_tokens.l0 k y0 y1 y2 y3 y4 y5) (pack_tokens.l0 (k + 1) y0 y1 y2 y3 y4 y5))
  | 0 => fun _ _ _ _ _ _ r h => by simp [pack_tokens.l0] at h
  | k + 1 => by
    have ih0 := pack_tokens.mono_l k
    · intro y0 y1 y2 y3 y4 y5
      unfold pack_tokens.l0
      repeat' first
      | (with_reducible exact ih0 _ _ _ _ _ _)
      | (with_reducible exact wire_Get.mono _ _ _)
      | (with_reducible exact LeO.refl _)
      | (with_reducible exact LeO.none _)
      | (with_reducible refine LeO.ite ?_ ?_)
      | (with_reducible refine LeO.bind ?_ (fun _ => ?_))
      | exact ih0 _ _ _ _ _ _
      | exact wire_Get.mono _ _ _
      | exact LeO.none _
      | refine LeO.ite ?_ ?_
      | refine LeO.bind ?_ (fun _ => ?_)
theorem pack_tokens.mono : ∀ a0 a1 a2 k, LeO (pack_tokens.f k a0 a1 a2) (pack_tokens.f (k + 1) a0 a1 a2) := by
  intro a0 a1 a2 k
  have ih0 := pack_tokens.mono_l k
  unfold pack_tokens.f
  repeat' first
      | (with_reducible exact ih0 _ _ _ _ _ _)
      | (with_reducible exact wire_Get.mono _ _ _)
      | (with_reducible exact LeO.refl _)
      | (with_reducible exact LeO.none _)
      | (with_reducible refine LeO.ite ?_ ?_)
      | (with_reducible refine LeO.bind ?_ (fun _ => ?_))
      | exact ih0 _ _ _ _ _ _
      | exact wire_Get.mono _ _ _
      | exact LeO.none _
      | refine LeO.ite ?_ ?_
      | refine LeO.bind ?_ (fun _ => ?_)
set_option maxHeartbeats 8000000 in
set_option maxRecDepth 100000 in
theorem pack_tokens.calls (k : Nat) (a0 : ByteArray) (a1 : Int) (a2 : Int) (r1 : List (S43)) (r2 : Int) (r3 : Int) (w : World) (h : pack_tokens.f k a0 a1 a2 = some (r1, r2, r3)) :
    Calls Tryd.prog 21 #[.string a0, .int .i64 a1, .int .u64 a2] w fun e w' => ∃ v0_ : Value, e = .returned (.tuple #[v0_, .int .i64 r2, .int .i64 r3]) ∧ Kd.R k43 43 w' w.heap.size (fun _ => True) v0_ r1 ∧ Below w.heap.size w w' := by
  have hu43 := Tryd.underlying43
  have HB := Aside0.mk (Below.refl w.heap.size w)
  have H : (pack_tokens.l0 k a0 a1 ([] : List (S43)) 0 a2 0) = some (r1, r2, r3) := h
  clear h
  have H' := Aside0.mk H
  clear H
  go_enter Tryd.func21, Tryd.ntmps21
  (try go_step3)
  go_wp2
  (try (go_step3; go_wp2))
  (try (go_step3; go_wp2))
  go_loopg [1, 9, 10, 15] k (fun kq v1 v9 v10 v15 w' => ∃ (x1_1 : Int) (x9_1 : List (S43)) (x10_1 : Int) (x15_1 : Int), v1 = .int .i64 x1_1 ∧ v10 = .int .i64 x10_1 ∧ v15 = .int .u64 x15_1 ∧ Aside0 (pack_tokens.l0 kq a0 x1_1 x9_1 x10_1 a2 x15_1 = some (r1, r2, r3)) ∧ Aside0 (kq ≤ k) ∧ Aside0 (Kd.R k43 43 w' w.heap.size (fun _ => True) v9 x9_1) ∧ Aside0 (Below w.heap.size w w'))
  case atStart => exact ⟨(a1), (([] : List (S43))), (0), (0), (by first | rfl | (simp; done) | (simp [*]; done)), (by first | rfl | (simp; done) | (simp [*]; done)), (by first | rfl | (simp; done) | (simp [*]; done)), H', ⟨Nat.le_refl _⟩, ⟨by first | exact Kd.R_nil _ _ _ _ _ | exact Kd.N_nil _ _ _ _ _ | exact Kd.V_nil _ _ _ _ _ | exact Kd.Q_nil _ _ _ _ _ | exact Kd.S_nil _ _ _ _ _⟩, ⟨by repeat (first | (with_reducible first | exact HB.out | apply below_alloc | apply pw_below_drewN | apply below_drew1) | exact HB.out)⟩⟩
  case round =>
    clear H'
    try clear c2
    try clear p2
    try clear p3
    obtain ⟨x1_1, x9_1, x10_1, x15_1, rfl, rfl, rfl, HA, HK1, HO_9, HB⟩ := hrel
    cases gk with
    | zero => exact absurd HA.out (by simp [pack_tokens.l0])
    | succ k1 =>
      have H := HA.out
      clear HA
      simp only [pack_tokens.l0] at H
      by_cases c4 : x15_1 < a2
      · rw [if_pos c4] at H
        have c4b0 : decide (x15_1 < a2) = true := decide_eq_true c4
        clear c4
        replace H := Option.bind_eq_some_iff.mp H
        obtain ⟨⟨t118, t119, t120⟩, A50, H⟩ := H
        replace H : (if t120 = 0 then (if t118 > 4294967296 then (some (x9_1, x1_1, 3)) else (if x9_1.length < 8796093022208 then (pack_tokens.l0 k1 a0 t119 (x9_1 ++ [(⟨wrap64 (Int.tmod t118 6), wrap64 (IntKind.u64.wrap (Int.tdiv t118 6))⟩ : S43)]) x10_1 a2 (IntKind.u64.wrap (x15_1 + 1))) else (none))) else (some (x9_1, x1_1, t120))) = some (r1, r2, r3) := H
        have A5 := Aside0.mk A50
        clear A50
        by_cases c6 : t120 = 0
        · rw [if_pos c6] at H
          have c6b0 : (t120 == 0) = true := beq_iff_eq.mpr c6
          have c6b1 : (t120 != 0) = false := bne_eq_false_iff_eq.mpr c6
          clear c6
          by_cases c7 : t118 > 4294967296
          · rw [if_pos c7] at H
            have c7b0 : decide (4294967296 < t118) = true := decide_eq_true c7
            clear c7
            simp only [Option.some.injEq, Prod.mk.injEq] at H
            obtain ⟨rfl, rfl, rfl⟩ := H
            go_wp2_with (first | ((with_reducible refine gate_callee (f := 20) rfl ?_); refine goesL_ (some 20) rfl rfl Tryd.func20 (by kernel_rfl) rfl #[.string a0, .int .i64 x1_1] rfl (by (try simp only [List.map_toArray, List.map_cons, List.map_nil]); first | done | rfl | (simp only [List.length_drop, List.length_take]; rfl)) ?_; (with_reducible refine (wire_Get.calls k1 a0 x1_1 t118 t119 t120 _ A5.out).mono ?_); rintro e w' ⟨rfl, ⟨nd, rfl⟩⟩; refine ⟨_, rfl, ?_⟩))
            (try (go_step3; go_wp2))
            (try (go_step3; go_wp2))
            (try rw [Exit.noGoto_ret])
            go_ret3
            exact ⟨_, by first | rfl | (simp [errW_none, errW_some] <;> rfl) | (simp [*, errW_none, errW_some] <;> rfl), by (with_reducible repeat (first | apply Kd.R_alloc | apply Kd.R_drewN | apply Kd.R_drew)); exact HO_9.out, by repeat (first | (with_reducible first | exact HB.out | apply below_alloc | apply pw_below_drewN | apply below_drew1) | exact HB.out)⟩
          · rw [if_neg c7] at H
            have c7b0 : decide (4294967296 < t118) = false := decide_eq_false c7
            clear c7
            obtain ⟨c8, H⟩ := ite_yes_ H
            have LMc8 := Aside0.mk c8
            clear c8
            obtain ⟨y121, hy121⟩ : ∃ y_ : List (S43), y_ = (x9_1 ++ [(⟨wrap64 (Int.tmod t118 6), wrap64 (IntKind.u64.wrap (Int.tdiv t118 6))⟩ : S43)]) := ⟨_, rfl⟩
            replace H : (pack_tokens.l0 k1 a0 t119 y121 x10_1 a2 (IntKind.u64.wrap (x15_1 + 1))) = some (r1, r2, r3) := by first | (rw [hy121]; with_reducible exact H) | (have H2_ := (Option.bind_some _ _).symm.trans H; rw [hy121]; with_reducible exact H2_) | (have H2_ := (Option.bind_some _ _).symm.trans H; with_reducible exact H2_) | with_reducible exact H | (rw [hy121]; exact H) | exact H
            have Ny121 := Aside0.mk hy121
            clear hy121
            have H' := Aside0.mk H
            clear H
            go_wp2_with (first | ((with_reducible refine gate_callee (f := 20) rfl ?_); refine goesL_ (some 20) rfl rfl Tryd.func20 (by kernel_rfl) rfl #[.string a0, .int .i64 x1_1] rfl (by (try simp only [List.map_toArray, List.map_cons, List.map_nil]); first | done | rfl | (simp only [List.length_drop, List.length_take]; rfl)) ?_; (with_reducible refine (wire_Get.calls k1 a0 x1_1 t118 t119 t120 _ A5.out).mono ?_); rintro e w' ⟨rfl, ⟨nd, rfl⟩⟩; refine ⟨_, rfl, ?_⟩) | ((with_reducible refine gate_builtin (b := .append) (xs := #[.tmp 31, .tmp 39]) rfl ?_); at_builtin; refine Kd.R_append k43 (w0 := w) w.heap.size rfl (.tmp 31) (.tmp 39) 22 43 (.agg #[(.int .i64 0), (.int .i64 0)]) 16 rfl Tryd.underlying22 info43 rfl (by decide) (by omega) u9 x9_1 (⟨wrap64 (Int.tmod t118 6), wrap64 (IntKind.u64.wrap (Int.tdiv t118 6))⟩ : S43) [.int .i64 (wrap64 (Int.tmod t118 6)), .int .i64 (wrap64 (IntKind.u64.wrap (Int.tdiv t118 6)))] (fun _ => True) (fun _ => False) rfl rfl ?aP (fun _ hk => hk.elim) ?aF ?aO ?aB ?aS ?aL ?_; (case aP => exact k43_mkM _ _ _ (⟨wrap64 (Int.tmod t118 6), wrap64 (IntKind.u64.wrap (Int.tdiv t118 6))⟩ : S43)); (case aB => exact (by repeat (first | (with_reducible first | exact HB.out | apply below_alloc | apply pw_below_drewN | apply below_drew1) | exact HB.out))); (case aF => exact (fun _ _ => trivial)); (case aO => exact (by (with_reducible repeat (first | apply Kd.R_alloc | apply Kd.R_drewN | apply Kd.R_drew)); exact HO_9.out)); (case aS => exact (below_size (by repeat (first | (with_reducible first | exact HB.out | apply below_alloc | apply pw_below_drewN | apply below_drew1) | exact HB.out)))); (case aL => have := LMc8.out; omega); intro v122 w9 ho hb hg hat; rw [← Ny121.out] at ho; have n0_ := Aside0.mk (hb); have n1_ := Aside0.mk (ho); clear HB; clear HO_9; have HB := n0_; have HO123 := n1_; clear n0_ n1_; clear ho hb hg hat))
            (try (go_step3; go_wp2))
            (try (go_step3; go_wp2))
            go_roundg k1
            case measure => have := HK1.out; omega
            case rel => exact ⟨(t119), (y121), (x10_1), (IntKind.u64.wrap (x15_1 + 1)), (by first | rfl | (simp; done) | (simp [*]; done)), (by first | rfl | (simp; done) | (simp [*]; done)), (by first | rfl | (simp; done) | (simp [*]; done)), H', ⟨by have := HK1.out; omega⟩, ⟨by (with_reducible repeat (first | apply Kd.R_alloc | apply Kd.R_drewN | apply Kd.R_drew)); exact HO123.out⟩, ⟨by repeat (first | (with_reducible first | exact HB.out | apply below_alloc | apply pw_below_drewN | apply below_drew1) | exact HB.out)⟩⟩
        · rw [if_neg c6] at H
          have c6b0 : (t120 == 0) = false := beq_eq_false_iff_ne.mpr c6
          have c6b1 : (t120 != 0) = true := bne_iff_ne.mpr c6
          simp only [Option.some.injEq, Prod.mk.injEq] at H
          obtain ⟨rfl, rfl, rfl⟩ := H
          go_wp2_with (first | ((with_reducible refine gate_callee (f := 20) rfl ?_); refine goesL_ (some 20) rfl rfl Tryd.func20 (by kernel_rfl) rfl #[.string a0, .int .i64 x1_1] rfl (by (try simp only [List.map_toArray, List.map_cons, List.map_nil]); first | done | rfl | (simp only [List.length_drop, List.length_take]; rfl)) ?_; (with_reducible refine (wire_Get.calls k1 a0 x1_1 t118 t119 t120 _ A5.out).mono ?_); rintro e w' ⟨rfl, ⟨nd, rfl⟩⟩; refine ⟨_, rfl, ?_⟩))
          (try (go_step3; go_wp2))
          (try (go_step3; go_wp2))
          (try rw [Exit.noGoto_ret])
          go_ret3
          exact ⟨_, by first | rfl | (simp [errW_none, errW_some] <;> rfl) | (simp [*, errW_none, errW_some] <;> rfl), by (with_reducible repeat (first | apply Kd.R_alloc | apply Kd.R_drewN | apply Kd.R_drew)); exact HO_9.out, by repeat (first | (with_reducible first | exact HB.out | apply below_alloc | apply pw_below_drewN | apply below_drew1) | exact HB.out)⟩
      · rw [if_neg c4] at H
        have c4b0 : decide (x15_1 < a2) = false := decide_eq_false c4
        clear c4
        simp only [Option.some.injEq, Prod.mk.injEq] at H
        obtain ⟨rfl, rfl, rfl⟩ := H
        go_wp2
        (try (go_step3; go_wp2))
        (try (go_step3; go_wp2))
        (try rw [Exit.noGoto_ret])
        go_ret3
        exact ⟨_, by first | rfl | (simp [errW_none, errW_some] <;> rfl) | (simp [*, errW_none, errW_some] <;> rfl), by (with_reducible repeat (first | apply Kd.R_alloc | apply Kd.R_drewN | apply Kd.R_drew)); exact HO_9.out, by repeat (first | (with_reducible first | exact HB.out | apply below_alloc | apply pw_below_drewN | apply below_drew1) | exact HB.out)⟩

/-! ### pack_Decode: function 7 -/
def pack_Decode.j0 : Nat → Int → List (S43) → Bool → Option ((List (S43)) × Int)
  | 0, _, _, _ => none
  | k + 1, x5, x8, x51 => if x51 = true then (some (([] : List (S43)), 3)) else (if x5 = 0 then (some (x8, 0)) else (some (([] : List (S43)), x5)))
def pack_Decode.f (k : Nat) (a0 : ByteArray) : Option ((List (S43)) × Int) := (crc_Open.f a0).bind fun bt124 => (if bt124.2 = 0 then ((strings_HasPrefix.f bt124.1 (⟨#[67, 76, 69, 87]⟩ : ByteArray)).bind fun t126 => (if t126 = true then ((wire_Get.f k bt124.1 4).bind fun bt127 => (if bt127.2.2 = 0 then (if bt127.1 > 1048576 then (some (([] : List (S43)), 4)) else ((pack_tokens.f k bt124.1 bt127.2.1 bt127.1).bind fun bt130 => (if bt130.2.2 = 0 then (if bt130.2.1 < (bt124.1.size : Int) then (pack_Decode.j0 k bt130.2.2 bt130.1 true) else ((cert_Right.f k bt130.1).bind fun t135 => (pack_Decode.j0 k bt130.2.2 bt130.1 (!t135)))) else (pack_Decode.j0 k bt130.2.2 bt130.1 false)))) else (some (([] : List (S43)), bt127.2.2)))) else (some (([] : List (S43)), 3)))) else (some (([] : List (S43)), bt124.2)))
theorem pack_Decode.mono_l : ∀ k, (∀ y0 y1 y2, LeO (pack_Decode.j0 k y0 y1 y2) (pack_Decode.j0 (k + 1) y0 y1 y2))
  | 0 => fun _ _ _ r h => by simp [pack_Decode.j0] at h
  | k + 1 => by
    have ih0 := pack_Decode.mono_l k
    · intro y0 y1 y2
      unfold pack_Decode.j0
      repeat' first
      | (with_reducible exact ih0 _ _ _)
      | (with_reducible exact cert_Right.mono _ _)
      | (with_reducible exact pack_tokens.mono _ _ _ _)
      | (with_reducible exact wire_Get.mono _ _ _)
      | (with_reducible exact LeO.refl _)
      | (with_reducible exact LeO.none _)
      | (with_reducible refine LeO.ite ?_ ?_)
      | (with_reducible refine LeO.bind ?_ (fun _ => ?_))
      | exact ih0 _ _ _
      | exact cert_Right.mono _ _
      | exact pack_tokens.mono _ _ _ _
      | exact wire_Get.mono _ _ _
      | exact LeO.none _
      | refine LeO.ite ?_ ?_
      | refine LeO.bind ?_ (fun _ => ?_)
theorem pack_Decode.mono : ∀ a0 k, LeO (pack_Decode.f k a0) (pack_Decode.f (k + 1) a0) := by
  intro a0 k
  have ih0 := pack_Decode.mono_l k
  unfold pack_Decode.f
  repeat' first
      | (with_reducible exact ih0 _ _ _)
      | (with_reducible exact cert_Right.mono _ _)
      | (with_reducible exact pack_tokens.mono _ _ _ _)
      | (with_reducible exact wire_Get.mono _ _ _)
      | (with_reducible exact LeO.refl _)
      | (with_reducible exact LeO.none _)
      | (with_reducible refine LeO.ite ?_ ?_)
      | (with_reducible refine LeO.bind ?_ (fun _ => ?_))
      | exact ih0 _ _ _
      | exact cert_Right.mono _ _
      | exact pack_tokens.mono _ _ _ _
      | exact wire_Get.mono _ _ _
      | exact LeO.none _
      | refine LeO.ite ?_ ?_
      | refine LeO.bind ?_ (fun _ => ?_)
set_option maxHeartbeats 8000000 in
set_option maxRecDepth 100000 in
theorem pack_Decode.calls (k : Nat) (a0 : ByteArray) (r1 : List (S43)) (r2 : Int) (w : World) (hTab : TabW w) (h : pack_Decode.f k a0 = some (r1, r2)) :
    Calls Tryd.prog 7 #[.string a0] w fun e w' => ∃ v0_ : Value, e = .returned (.tuple #[v0_, .int .i64 r2]) ∧ Kd.R k43 43 w' w.heap.size (fun _ => True) v0_ r1 ∧ Below w.heap.size w w' := by
  have HB := Aside0.mk (Below.refl w.heap.size w)
  have HTb := Aside0.mk hTab
  clear hTab
  have H : ((crc_Open.f a0).bind fun bt124 => (if bt124.2 = 0 then ((strings_HasPrefix.f bt124.1 (⟨#[67, 76, 69, 87]⟩ : ByteArray)).bind fun t126 => (if t126 = true then ((wire_Get.f k bt124.1 4).bind fun bt127 => (if bt127.2.2 = 0 then (if bt127.1 > 1048576 then (some (([] : List (S43)), 4)) else ((pack_tokens.f k bt124.1 bt127.2.1 bt127.1).bind fun bt130 => (if bt130.2.2 = 0 then (if bt130.2.1 < (bt124.1.size : Int) then (pack_Decode.j0 k bt130.2.2 bt130.1 true) else ((cert_Right.f k bt130.1).bind fun t135 => (pack_Decode.j0 k bt130.2.2 bt130.1 (!t135)))) else (pack_Decode.j0 k bt130.2.2 bt130.1 false)))) else (some (([] : List (S43)), bt127.2.2)))) else (some (([] : List (S43)), 3)))) else (some (([] : List (S43)), bt124.2)))) = some (r1, r2) := h
  clear h
  replace H := Option.bind_eq_some_iff.mp H
  obtain ⟨⟨t124, t125⟩, A20, H⟩ := H
  replace H : (if t125 = 0 then ((strings_HasPrefix.f t124 (⟨#[67, 76, 69, 87]⟩ : ByteArray)).bind fun t126 => (if t126 = true then ((wire_Get.f k t124 4).bind fun bt127 => (if bt127.2.2 = 0 then (if bt127.1 > 1048576 then (some (([] : List (S43)), 4)) else ((pack_tokens.f k t124 bt127.2.1 bt127.1).bind fun bt130 => (if bt130.2.2 = 0 then (if bt130.2.1 < (t124.size : Int) then (pack_Decode.j0 k bt130.2.2 bt130.1 true) else ((cert_Right.f k bt130.1).bind fun t135 => (pack_Decode.j0 k bt130.2.2 bt130.1 (!t135)))) else (pack_Decode.j0 k bt130.2.2 bt130.1 false)))) else (some (([] : List (S43)), bt127.2.2)))) else (some (([] : List (S43)), 3)))) else (some (([] : List (S43)), t125))) = some (r1, r2) := H
  have A2 := Aside0.mk A20
  clear A20
  by_cases c3 : t125 = 0
  · rw [if_pos c3] at H
    have c3b0 : (t125 == 0) = true := beq_iff_eq.mpr c3
    have c3b1 : (t125 != 0) = false := bne_eq_false_iff_eq.mpr c3
    clear c3
    replace H := Option.bind_eq_some_iff.mp H
    obtain ⟨t126, A40, H⟩ := H
    replace H : (if t126 = true then ((wire_Get.f k t124 4).bind fun bt127 => (if bt127.2.2 = 0 then (if bt127.1 > 1048576 then (some (([] : List (S43)), 4)) else ((pack_tokens.f k t124 bt127.2.1 bt127.1).bind fun bt130 => (if bt130.2.2 = 0 then (if bt130.2.1 < (t124.size : Int) then (pack_Decode.j0 k bt130.2.2 bt130.1 true) else ((cert_Right.f k bt130.1).bind fun t135 => (pack_Decode.j0 k bt130.2.2 bt130.1 (!t135)))) else (pack_Decode.j0 k bt130.2.2 bt130.1 false)))) else (some (([] : List (S43)), bt127.2.2)))) else (some (([] : List (S43)), 3))) = some (r1, r2) := H
    have A4 := Aside0.mk A40
    clear A40
    by_cases c5 : t126 = true
    · subst c5
      have H1 : ((wire_Get.f k t124 4).bind fun bt127 => (if bt127.2.2 = 0 then (if bt127.1 > 1048576 then (some (([] : List (S43)), 4)) else ((pack_tokens.f k t124 bt127.2.1 bt127.1).bind fun bt130 => (if bt130.2.2 = 0 then (if bt130.2.1 < (t124.size : Int) then (pack_Decode.j0 k bt130.2.2 bt130.1 true) else ((cert_Right.f k bt130.1).bind fun t135 => (pack_Decode.j0 k bt130.2.2 bt130.1 (!t135)))) else (pack_Decode.j0 k bt130.2.2 bt130.1 false)))) else (some (([] : List (S43)), bt127.2.2)))) = some (r1, r2) := by rw [if_pos rfl] at H; exact H
      clear H
      have H := H1
      clear H1
      replace H := Option.bind_eq_some_iff.mp H
      obtain ⟨⟨t127, t128, t129⟩, A60, H⟩ := H
      replace H : (if t129 = 0 then (if t127 > 1048576 then (some (([] : List (S43)), 4)) else ((pack_tokens.f k t124 t128 t127).bind fun bt130 => (if bt130.2.2 = 0 then (if bt130.2.1 < (t124.size : Int) then (pack_Decode.j0 k bt130.2.2 bt130.1 true) else ((cert_Right.f k bt130.1).bind fun t135 => (pack_Decode.j0 k bt130.2.2 bt130.1 (!t135)))) else (pack_Decode.j0 k bt130.2.2 bt130.1 false)))) else (some (([] : List (S43)), t129))) = some (r1, r2) := H
      have A6 := Aside0.mk A60
      clear A60
      by_cases c7 : t129 = 0
      · rw [if_pos c7] at H
        have c7b0 : (t129 == 0) = true := beq_iff_eq.mpr c7
        have c7b1 : (t129 != 0) = false := bne_eq_false_iff_eq.mpr c7
        clear c7
        by_cases c8 : t127 > 1048576
        · rw [if_pos c8] at H
          have c8b0 : decide (1048576 < t127) = true := decide_eq_true c8
          clear c8
          simp only [Option.some.injEq, Prod.mk.injEq] at H
          obtain ⟨rfl, rfl⟩ := H
          go_enter Tryd.func7, Tryd.ntmps7
          go_wp2_with (first | ((with_reducible refine gate_callee (f := 18) rfl ?_); refine goesL_ (some 11) rfl rfl Tryd.func18 (by kernel_rfl) rfl #[.string a0] rfl (by (try simp only [List.map_toArray, List.map_cons, List.map_nil]); first | done | rfl | (simp only [List.length_drop, List.length_take]; rfl)) ?_; (with_reducible refine (crc_Open.calls a0 t124 t125 _ ?side1 A2.out).mono ?_); (case side1 => exact TabW.below HTb.out (by repeat (first | (with_reducible first | exact HB.out | apply below_alloc | apply pw_below_drewN | apply below_drew1) | exact HB.out))); rintro e w9 ⟨rfl, hb⟩; refine ⟨_, rfl, ?_⟩; have n0_ := Aside0.mk (below_step (by repeat (first | (with_reducible first | exact HB.out | apply below_alloc | apply pw_below_drewN | apply below_drew1) | exact HB.out)) hb); clear HB; have HB := n0_; clear n0_; (try clear hb); (try clear hb2); (try clear hk); (try clear hi)) | ((with_reducible refine gate_callee (f := 19) rfl ?_); refine goesL_ (some 18) rfl rfl Tryd.func19 (by kernel_rfl) rfl #[.string t124, .string (⟨#[67, 76, 69, 87]⟩ : ByteArray)] rfl (by (try simp only [List.map_toArray, List.map_cons, List.map_nil]); first | done | rfl | (simp only [List.length_drop, List.length_take]; rfl)) ?_; (with_reducible refine (strings_HasPrefix.calls t124 (⟨#[67, 76, 69, 87]⟩ : ByteArray) true _ A4.out).mono ?_); rintro e w' ⟨rfl, ⟨nd, rfl⟩⟩; refine ⟨_, rfl, ?_⟩) | ((with_reducible refine gate_callee (f := 20) rfl ?_); refine goesL_ (some 22) rfl rfl Tryd.func20 (by kernel_rfl) rfl #[.string t124, .int .i64 4] rfl (by (try simp only [List.map_toArray, List.map_cons, List.map_nil]); first | done | rfl | (simp only [List.length_drop, List.length_take]; rfl)) ?_; (with_reducible refine (wire_Get.calls k t124 4 t127 t128 t129 _ A6.out).mono ?_); rintro e w' ⟨rfl, ⟨nd, rfl⟩⟩; refine ⟨_, rfl, ?_⟩))
          go_ret2
          exact ⟨_, by first | rfl | (simp [errW_none, errW_some] <;> rfl) | (simp [*, errW_none, errW_some] <;> rfl), by first | exact Kd.R_nil _ _ _ _ _ | exact Kd.N_nil _ _ _ _ _ | exact Kd.V_nil _ _ _ _ _ | exact Kd.Q_nil _ _ _ _ _ | exact Kd.S_nil _ _ _ _ _, by repeat (first | (with_reducible first | exact HB.out | apply below_alloc | apply pw_below_drewN | apply below_drew1) | exact HB.out)⟩
        · rw [if_neg c8] at H
          have c8b0 : decide (1048576 < t127) = false := decide_eq_false c8
          clear c8
          replace H := Option.bind_eq_some_iff.mp H
          obtain ⟨⟨t130, t131, t132⟩, A100, H⟩ := H
          replace H : (if t132 = 0 then (if t131 < (t124.size : Int) then (pack_Decode.j0 k t132 t130 true) else ((cert_Right.f k t130).bind fun t135 => (pack_Decode.j0 k t132 t130 (!t135)))) else (pack_Decode.j0 k t132 t130 false)) = some (r1, r2) := H
          have A10 := Aside0.mk A100
          clear A100
          have HC11 := Aside0.mk H
          clear H
          go_enter Tryd.func7, Tryd.ntmps7
          go_upto_region 12 with (first | ((with_reducible refine gate_callee (f := 18) rfl ?_); refine goesL_ (some 11) rfl rfl Tryd.func18 (by kernel_rfl) rfl #[.string a0] rfl (by (try simp only [List.map_toArray, List.map_cons, List.map_nil]); first | done | rfl | (simp only [List.length_drop, List.length_take]; rfl)) ?_; (with_reducible refine (crc_Open.calls a0 t124 t125 _ ?side1 A2.out).mono ?_); (case side1 => exact TabW.below HTb.out (by repeat (first | (with_reducible first | exact HB.out | apply below_alloc | apply pw_below_drewN | apply below_drew1) | exact HB.out))); rintro e w12 ⟨rfl, hb⟩; refine ⟨_, rfl, ?_⟩; have n0_ := Aside0.mk (below_step (by repeat (first | (with_reducible first | exact HB.out | apply below_alloc | apply pw_below_drewN | apply below_drew1) | exact HB.out)) hb); clear HB; have HB := n0_; clear n0_; (try clear hb); (try clear hb2); (try clear hk); (try clear hi)) | ((with_reducible refine gate_callee (f := 19) rfl ?_); refine goesL_ (some 18) rfl rfl Tryd.func19 (by kernel_rfl) rfl #[.string t124, .string (⟨#[67, 76, 69, 87]⟩ : ByteArray)] rfl (by (try simp only [List.map_toArray, List.map_cons, List.map_nil]); first | done | rfl | (simp only [List.length_drop, List.length_take]; rfl)) ?_; (with_reducible refine (strings_HasPrefix.calls t124 (⟨#[67, 76, 69, 87]⟩ : ByteArray) true _ A4.out).mono ?_); rintro e w' ⟨rfl, ⟨nd, rfl⟩⟩; refine ⟨_, rfl, ?_⟩) | ((with_reducible refine gate_callee (f := 20) rfl ?_); refine goesL_ (some 22) rfl rfl Tryd.func20 (by kernel_rfl) rfl #[.string t124, .int .i64 4] rfl (by (try simp only [List.map_toArray, List.map_cons, List.map_nil]); first | done | rfl | (simp only [List.length_drop, List.length_take]; rfl)) ?_; (with_reducible refine (wire_Get.calls k t124 4 t127 t128 t129 _ A6.out).mono ?_); rintro e w' ⟨rfl, ⟨nd, rfl⟩⟩; refine ⟨_, rfl, ?_⟩) | ((with_reducible refine gate_callee (f := 21) rfl ?_); refine goesL_ (some 35) rfl rfl Tryd.func21 (by kernel_rfl) rfl #[.string t124, .int .i64 t128, .int .u64 t127] rfl (by (try simp only [List.map_toArray, List.map_cons, List.map_nil]); first | done | rfl | (simp only [List.length_drop, List.length_take]; rfl)) ?_; (with_reducible refine (pack_tokens.calls k t124 t128 t127 t130 t131 t132 _ A10.out).mono ?_); rintro e w13 ⟨v133, rfl, ho0, hb⟩; refine ⟨_, rfl, ?_⟩; have n0_ := Aside0.mk (Kd.R_lower ho0 (below_size (by repeat (first | (with_reducible first | exact HB.out | apply below_alloc | apply pw_below_drewN | apply below_drew1) | exact HB.out)))); have n1_ := Aside0.mk (below_step (by repeat (first | (with_reducible first | exact HB.out | apply below_alloc | apply pw_below_drewN | apply below_drew1) | exact HB.out)) hb); clear HB; have HO134 := n0_; have HB := n1_; clear n0_ n1_; (try clear hb); (try clear hb2); (try clear hk); (try clear hi); (try clear ho0)))
          (try simp only [Act.put, List.setIfInBounds_toArray, List.set_cons_zero, List.set_cons_succ])
          go_cut [51] (fun v51 wc => ∃ (kq : Nat) (x51_10 : Bool), v51 = .bool x51_10 ∧ Aside0 (pack_Decode.j0 kq t132 t130 x51_10 = some (r1, r2)) ∧ Aside0 (kq ≤ k) ∧ Aside0 (Kd.R k43 43 wc w.heap.size (fun _ => True) v133 t130) ∧ Aside0 (Below w.heap.size w wc))
          case first =>
            have H := HC11.out
            clear HC11
            by_cases c14 : t132 = 0
            · rw [if_pos c14] at H
              have c14b0 : (t132 == 0) = true := beq_iff_eq.mpr c14
              have c14b1 : (t132 != 0) = false := bne_eq_false_iff_eq.mpr c14
              clear c14
              (first | rw [c14b0] | rw [c14b3] | rw [c14b2] | (simp only [i64_w, i32_w]; rw [c14b0]) | skip)
              by_cases c15 : t131 < (t124.size : Int)
              · rw [if_pos c15] at H
                have c15b0 : decide (t131 < (t124.size : Int)) = true := decide_eq_true c15
                clear c15
                have H' := Aside0.mk H
                clear H
                go_wp2
                go_meet
                case rel => exact ⟨_, (true), (by first | rfl | (simp; done) | (simp [*]; done)), H', ⟨by first | omega | exact Nat.le_refl _⟩, ⟨by (with_reducible repeat (first | apply Kd.R_alloc | apply Kd.R_drewN | apply Kd.R_drew)); exact HO134.out⟩, ⟨by repeat (first | (with_reducible first | exact HB.out | apply below_alloc | apply pw_below_drewN | apply below_drew1) | exact HB.out)⟩⟩
              · rw [if_neg c15] at H
                have c15b0 : decide (t131 < (t124.size : Int)) = false := decide_eq_false c15
                clear c15
                replace H := Option.bind_eq_some_iff.mp H
                obtain ⟨t135, A160, H⟩ := H
                replace H : (pack_Decode.j0 k t132 t130 (!t135)) = some (r1, r2) := H
                have A16 := Aside0.mk A160
                clear A160
                have H' := Aside0.mk H
                clear H
                obtain ⟨Ao17, co17, eo17⟩ := Kd.R_slice HO134.out
                subst eo17
                go_wp2_with (first | (go_at_call 15; (with_reducible refine (cert_Right.calls k _ _ t130 t135 _ ?side1 ?side2 A16.out).mono ?_); (case side1 => repeat (first | exact (Kd.R_reads' HO134.out).2.2 | (with_reducible refine Kd.C_alloc ?_ _) | (with_reducible refine Kd.C_drewN ?_ _) | (with_reducible refine Kd.C_drew ?_))); (case side2 => exact (Kd.R_reads' HO134.out).2.1); rintro e w18 ⟨rfl, hb⟩; have n0_ := Aside0.mk (Kd.R_below (by (with_reducible repeat (first | apply Kd.R_alloc | apply Kd.R_drewN | apply Kd.R_drew)); exact HO134.out) hb); have n1_ := Aside0.mk (below_step (by repeat (first | (with_reducible first | exact HB.out | apply below_alloc | apply pw_below_drewN | apply below_drew1) | exact HB.out)) hb); clear HO134; clear HB; have HO134 := n0_; have HB := n1_; clear n0_ n1_; (try clear hb); (try clear hb2); (try clear hk); (try clear hi)))
                go_meet
                case rel => exact ⟨_, (!t135), (by first | rfl | (simp; done) | (simp [*]; done)), H', ⟨by first | omega | exact Nat.le_refl _⟩, ⟨by (with_reducible repeat (first | apply Kd.R_alloc | apply Kd.R_drewN | apply Kd.R_drew)); exact HO134.out⟩, ⟨by repeat (first | (with_reducible first | exact HB.out | apply below_alloc | apply pw_below_drewN | apply below_drew1) | exact HB.out)⟩⟩
            · rw [if_neg c14] at H
              have c14b0 : (t132 == 0) = false := beq_eq_false_iff_ne.mpr c14
              have c14b1 : (t132 != 0) = true := bne_iff_ne.mpr c14
              (first | rw [c14b0] | rw [c14b3] | rw [c14b2] | (simp only [i64_w, i32_w]; rw [c14b0]) | skip)
              have H' := Aside0.mk H
              clear H
              go_wp2
              go_meet
              case rel => exact ⟨_, (false), (by first | rfl | (simp; done) | (simp [*]; done)), H', ⟨by first | omega | exact Nat.le_refl _⟩, ⟨by (with_reducible repeat (first | apply Kd.R_alloc | apply Kd.R_drewN | apply Kd.R_drew)); exact HO134.out⟩, ⟨by repeat (first | (with_reducible first | exact HB.out | apply below_alloc | apply pw_below_drewN | apply below_drew1) | exact HB.out)⟩⟩
          case rest =>
            clear HC11
            try clear c1
            try clear c2
            try clear p2
            try clear c3
            try clear c3b0
            try clear c3b1
            try clear c5
            try clear c7
            try clear c7b0
            try clear c7b1
            try clear c8
            try clear c8b0
            try clear c14
            try clear c14b0
            try clear c14b1
            try clear c14b2
            try clear c15
            try clear c15b0
            try clear c18
            obtain ⟨kq, x51_10, rfl, HA, HJ10, HO_8, HB⟩ := hcut
            cases kq with
            | zero => exact absurd HA.out (by simp [pack_Decode.j0])
            | succ kj10 =>
              have H := HA.out
              clear HA
              simp only [pack_Decode.j0] at H
              by_cases c19 : x51_10 = true
              · subst c19
                have H1 : (some (([] : List (S43)), 3)) = some (r1, r2) := by rw [if_pos rfl] at H; exact H
                clear H
                have H := H1
                clear H1
                simp only [Option.some.injEq, Prod.mk.injEq] at H
                obtain ⟨rfl, rfl⟩ := H
                go_wp2
                go_ret2
                exact ⟨_, by first | rfl | (simp [errW_none, errW_some] <;> rfl) | (simp [*, errW_none, errW_some] <;> rfl), by first | exact Kd.R_nil _ _ _ _ _ | exact Kd.N_nil _ _ _ _ _ | exact Kd.V_nil _ _ _ _ _ | exact Kd.Q_nil _ _ _ _ _ | exact Kd.S_nil _ _ _ _ _, by repeat (first | (with_reducible first | exact HB.out | apply below_alloc | apply pw_below_drewN | apply below_drew1) | exact HB.out)⟩
              · replace c19 := Bool.eq_false_iff.mpr c19
                subst c19
                have H1 : (if t132 = 0 then (some (t130, 0)) else (some (([] : List (S43)), t132))) = some (r1, r2) := by rw [if_neg (show ¬ (false = true) by decide)] at H; exact H
                clear H
                have H := H1
                clear H1
                by_cases c20 : t132 = 0
                · rw [if_pos c20] at H
                  have c20b0 : (t132 == 0) = true := beq_iff_eq.mpr c20
                  have c20b1 : (t132 != 0) = false := bne_eq_false_iff_eq.mpr c20
                  clear c20
                  simp only [Option.some.injEq, Prod.mk.injEq] at H
                  obtain ⟨rfl, rfl⟩ := H
                  go_wp2
                  go_ret2
                  exact ⟨_, by first | rfl | (simp [errW_none, errW_some] <;> rfl) | (simp [*, errW_none, errW_some] <;> rfl), by (with_reducible repeat (first | apply Kd.R_alloc | apply Kd.R_drewN | apply Kd.R_drew)); exact HO_8.out, by repeat (first | (with_reducible first | exact HB.out | apply below_alloc | apply pw_below_drewN | apply below_drew1) | exact HB.out)⟩
                · rw [if_neg c20] at H
                  have c20b0 : (t132 == 0) = false := beq_eq_false_iff_ne.mpr c20
                  have c20b1 : (t132 != 0) = true := bne_iff_ne.mpr c20
                  simp only [Option.some.injEq, Prod.mk.injEq] at H
                  obtain ⟨rfl, rfl⟩ := H
                  go_wp2
                  go_ret2
                  exact ⟨_, by first | rfl | (simp [errW_none, errW_some] <;> rfl) | (simp [*, errW_none, errW_some] <;> rfl), by first | exact Kd.R_nil _ _ _ _ _ | exact Kd.N_nil _ _ _ _ _ | exact Kd.V_nil _ _ _ _ _ | exact Kd.Q_nil _ _ _ _ _ | exact Kd.S_nil _ _ _ _ _, by repeat (first | (with_reducible first | exact HB.out | apply below_alloc | apply pw_below_drewN | apply below_drew1) | exact HB.out)⟩
      · rw [if_neg c7] at H
        have c7b0 : (t129 == 0) = false := beq_eq_false_iff_ne.mpr c7
        have c7b1 : (t129 != 0) = true := bne_iff_ne.mpr c7
        simp only [Option.some.injEq, Prod.mk.injEq] at H
        obtain ⟨rfl, rfl⟩ := H
        go_enter Tryd.func7, Tryd.ntmps7
        go_wp2_with (first | ((with_reducible refine gate_callee (f := 18) rfl ?_); refine goesL_ (some 11) rfl rfl Tryd.func18 (by kernel_rfl) rfl #[.string a0] rfl (by (try simp only [List.map_toArray, List.map_cons, List.map_nil]); first | done | rfl | (simp only [List.length_drop, List.length_take]; rfl)) ?_; (with_reducible refine (crc_Open.calls a0 t124 t125 _ ?side1 A2.out).mono ?_); (case side1 => exact TabW.below HTb.out (by repeat (first | (with_reducible first | exact HB.out | apply below_alloc | apply pw_below_drewN | apply below_drew1) | exact HB.out))); rintro e w21 ⟨rfl, hb⟩; refine ⟨_, rfl, ?_⟩; have n0_ := Aside0.mk (below_step (by repeat (first | (with_reducible first | exact HB.out | apply below_alloc | apply pw_below_drewN | apply below_drew1) | exact HB.out)) hb); clear HB; have HB := n0_; clear n0_; (try clear hb); (try clear hb2); (try clear hk); (try clear hi)) | ((with_reducible refine gate_callee (f := 19) rfl ?_); refine goesL_ (some 18) rfl rfl Tryd.func19 (by kernel_rfl) rfl #[.string t124, .string (⟨#[67, 76, 69, 87]⟩ : ByteArray)] rfl (by (try simp only [List.map_toArray, List.map_cons, List.map_nil]); first | done | rfl | (simp only [List.length_drop, List.length_take]; rfl)) ?_; (with_reducible refine (strings_HasPrefix.calls t124 (⟨#[67, 76, 69, 87]⟩ : ByteArray) true _ A4.out).mono ?_); rintro e w' ⟨rfl, ⟨nd, rfl⟩⟩; refine ⟨_, rfl, ?_⟩) | ((with_reducible refine gate_callee (f := 20) rfl ?_); refine goesL_ (some 22) rfl rfl Tryd.func20 (by kernel_rfl) rfl #[.string t124, .int .i64 4] rfl (by (try simp only [List.map_toArray, List.map_cons, List.map_nil]); first | done | rfl | (simp only [List.length_drop, List.length_take]; rfl)) ?_; (with_reducible refine (wire_Get.calls k t124 4 t127 t128 t129 _ A6.out).mono ?_); rintro e w' ⟨rfl, ⟨nd, rfl⟩⟩; refine ⟨_, rfl, ?_⟩))
        go_ret2
        exact ⟨_, by first | rfl | (simp [errW_none, errW_some] <;> rfl) | (simp [*, errW_none, errW_some] <;> rfl), by first | exact Kd.R_nil _ _ _ _ _ | exact Kd.N_nil _ _ _ _ _ | exact Kd.V_nil _ _ _ _ _ | exact Kd.Q_nil _ _ _ _ _ | exact Kd.S_nil _ _ _ _ _, by repeat (first | (with_reducible first | exact HB.out | apply below_alloc | apply pw_below_drewN | apply below_drew1) | exact HB.out)⟩
    · replace c5 := Bool.eq_false_iff.mpr c5
      subst c5
      have H1 : (some (([] : List (S43)), 3)) = some (r1, r2) := by rw [if_neg (show ¬ (false = true) by decide)] at H; exact H
      clear H
      have H := H1
      clear H1
      simp only [Option.some.injEq, Prod.mk.injEq] at H
      obtain ⟨rfl, rfl⟩ := H
      go_enter Tryd.func7, Tryd.ntmps7
      go_wp2_with (first | ((with_reducible refine gate_callee (f := 18) rfl ?_); refine goesL_ (some 11) rfl rfl Tryd.func18 (by kernel_rfl) rfl #[.string a0] rfl (by (try simp only [List.map_toArray, List.map_cons, List.map_nil]); first | done | rfl | (simp only [List.length_drop, List.length_take]; rfl)) ?_; (with_reducible refine (crc_Open.calls a0 t124 t125 _ ?side1 A2.out).mono ?_); (case side1 => exact TabW.below HTb.out (by repeat (first | (with_reducible first | exact HB.out | apply below_alloc | apply pw_below_drewN | apply below_drew1) | exact HB.out))); rintro e w22 ⟨rfl, hb⟩; refine ⟨_, rfl, ?_⟩; have n0_ := Aside0.mk (below_step (by repeat (first | (with_reducible first | exact HB.out | apply below_alloc | apply pw_below_drewN | apply below_drew1) | exact HB.out)) hb); clear HB; have HB := n0_; clear n0_; (try clear hb); (try clear hb2); (try clear hk); (try clear hi)) | ((with_reducible refine gate_callee (f := 19) rfl ?_); refine goesL_ (some 18) rfl rfl Tryd.func19 (by kernel_rfl) rfl #[.string t124, .string (⟨#[67, 76, 69, 87]⟩ : ByteArray)] rfl (by (try simp only [List.map_toArray, List.map_cons, List.map_nil]); first | done | rfl | (simp only [List.length_drop, List.length_take]; rfl)) ?_; (with_reducible refine (strings_HasPrefix.calls t124 (⟨#[67, 76, 69, 87]⟩ : ByteArray) false _ A4.out).mono ?_); rintro e w' ⟨rfl, ⟨nd, rfl⟩⟩; refine ⟨_, rfl, ?_⟩))
      go_ret2
      exact ⟨_, by first | rfl | (simp [errW_none, errW_some] <;> rfl) | (simp [*, errW_none, errW_some] <;> rfl), by first | exact Kd.R_nil _ _ _ _ _ | exact Kd.N_nil _ _ _ _ _ | exact Kd.V_nil _ _ _ _ _ | exact Kd.Q_nil _ _ _ _ _ | exact Kd.S_nil _ _ _ _ _, by repeat (first | (with_reducible first | exact HB.out | apply below_alloc | apply pw_below_drewN | apply below_drew1) | exact HB.out)⟩
  · rw [if_neg c3] at H
    have c3b0 : (t125 == 0) = false := beq_eq_false_iff_ne.mpr c3
    have c3b1 : (t125 != 0) = true := bne_iff_ne.mpr c3
    simp only [Option.some.injEq, Prod.mk.injEq] at H
    obtain ⟨rfl, rfl⟩ := H
    go_enter Tryd.func7, Tryd.ntmps7
    go_wp2_with (first | ((with_reducible refine gate_callee (f := 18) rfl ?_); refine goesL_ (some 11) rfl rfl Tryd.func18 (by kernel_rfl) rfl #[.string a0] rfl (by (try simp only [List.map_toArray, List.map_cons, List.map_nil]); first | done | rfl | (simp only [List.length_drop, List.length_take]; rfl)) ?_; (with_reducible refine (crc_Open.calls a0 t124 t125 _ ?side1 A2.out).mono ?_); (case side1 => exact TabW.below HTb.out (by repeat (first | (with_reducible first | exact HB.out | apply below_alloc | apply pw_below_drewN | apply below_drew1) | exact HB.out))); rintro e w23 ⟨rfl, hb⟩; refine ⟨_, rfl, ?_⟩; have n0_ := Aside0.mk (below_step (by repeat (first | (with_reducible first | exact HB.out | apply below_alloc | apply pw_below_drewN | apply below_drew1) | exact HB.out)) hb); clear HB; have HB := n0_; clear n0_; (try clear hb); (try clear hb2); (try clear hk); (try clear hi)))
    go_ret2
    exact ⟨_, by first | rfl | (simp [errW_none, errW_some] <;> rfl) | (simp [*, errW_none, errW_some] <;> rfl), by first | exact Kd.R_nil _ _ _ _ _ | exact Kd.N_nil _ _ _ _ _ | exact Kd.V_nil _ _ _ _ _ | exact Kd.Q_nil _ _ _ _ _ | exact Kd.S_nil _ _ _ _ _, by repeat (first | (with_reducible first | exact HB.out | apply below_alloc | apply pw_below_drewN | apply below_drew1) | exact HB.out)⟩

/-! ### clewref03_On: function 41 -/
mutual
def clewref03_On.l0 : Nat → ByteArray → Int → Int → Option (Int)
  | 0, _, _, _ => none
  | k + 1, x1, x5, x6 => if x6 < (x1.size : Int) then (if 0 ≤ x6 then (clewref03_On.l1 k x1 (Go.bits .xor .u32 x5 ((((bt x1 x6) % 4294967296) * 65536) % 4294967296)) x6 0) else (none)) else (some x5)
def clewref03_On.l1 : Nat → ByteArray → Int → Int → Int → Option (Int)
  | 0, _, _, _, _ => none
  | k + 1, x1, x5, x6, x7 => if x7 < 8 then (if ((x5 * 2) % 4294967296) ≥ 16777216 then (clewref03_On.l1 k x1 (Go.bits .xor .u32 ((x5 * 2) % 4294967296) 25578747) x6 (wrap64 (x7 + 1))) else (clewref03_On.l1 k x1 ((x5 * 2) % 4294967296) x6 (wrap64 (x7 + 1)))) else (clewref03_On.l0 k x1 x5 (wrap64 (x6 + 1)))
end
def clewref03_On.f (k : Nat) (a0 : Int) (a1 : ByteArray) : Option (Int) := clewref03_On.l0 k a1 (Int.tmod a0 16777216) 0
theorem clewref03_On.mono_l : ∀ k, (∀ y0 y1 y2, LeO (clewref03_On.l0 k y0 y1 y2) (clewref03_On.l0 (k + 1) y0 y1 y2)) ∧ (∀ y0 y1 y2 y3, LeO (clewref03_On.l1 k y0 y1 y2 y3) (clewref03_On.l1 (k + 1) y0 y1 y2 y3))
  | 0 => ⟨fun _ _ _ r h => by simp [clewref03_On.l0] at h, fun _ _ _ _ r h => by simp [clewref03_On.l1] at h⟩
  | k + 1 => by
    obtain ⟨ih0, ih1⟩ := clewref03_On.mono_l k
    refine ⟨?_, ?_⟩
    · intro y0 y1 y2
      unfold clewref03_On.l0
      repeat' first
      | (with_reducible exact ih0 _ _ _)
      | (with_reducible exact ih1 _ _ _ _)
      | (with_reducible exact LeO.refl _)
      | (with_reducible exact LeO.none _)
      | (with_reducible refine LeO.ite ?_ ?_)
      | (with_reducible refine LeO.bind ?_ (fun _ => ?_))
      | exact ih0 _ _ _
      | exact ih1 _ _ _ _
      | exact LeO.none _
      | refine LeO.ite ?_ ?_
      | refine LeO.bind ?_ (fun _ => ?_)
    · intro y0 y1 y2 y3
      unfold clewref03_On.l1
      repeat' first
      | (with_reducible exact ih0 _ _ _)
      | (with_reducible exact ih1 _ _ _ _)
      | (with_reducible exact LeO.refl _)
      | (with_reducible exact LeO.none _)
      | (with_reducible refine LeO.ite ?_ ?_)
      | (with_reducible refine LeO.bind ?_ (fun _ => ?_))
      | exact ih0 _ _ _
      | exact ih1 _ _ _ _
      | exact LeO.none _
      | refine LeO.ite ?_ ?_
      | refine LeO.bind ?_ (fun _ => ?_)
theorem clewref03_On.mono : ∀ a0 a1 k, LeO (clewref03_On.f k a0 a1) (clewref03_On.f (k + 1) a0 a1) := by
  intro a0 a1 k
  obtain ⟨ih0, ih1⟩ := clewref03_On.mono_l k
  unfold clewref03_On.f
  repeat' first
      | (with_reducible exact ih0 _ _ _)
      | (with_reducible exact ih1 _ _ _ _)
      | (with_reducible exact LeO.refl _)
      | (with_reducible exact LeO.none _)
      | (with_reducible refine LeO.ite ?_ ?_)
      | (with_reducible refine LeO.bind ?_ (fun _ => ?_))
      | exact ih0 _ _ _
      | exact ih1 _ _ _ _
      | exact LeO.none _
      | refine LeO.ite ?_ ?_
      | refine LeO.bind ?_ (fun _ => ?_)
set_option maxHeartbeats 8000000 in
set_option maxRecDepth 100000 in
theorem clewref03_On.calls (k : Nat) (a0 : Int) (a1 : ByteArray) (r : Int) (w : World) (h : clewref03_On.f k a0 a1 = some r) :
    Calls Tryd.prog 41 #[.int .u32 a0, .string a1] w fun e w' => e = .returned (.int .u32 r) ∧ Drawn0 w w' := by
  have H : (clewref03_On.l0 k a1 (Int.tmod a0 16777216) 0) = some r := h
  clear h
  have H' := Aside0.mk H
  clear H
  go_enter Tryd.func41, Tryd.ntmps41
  go_wp2
  go_loopg [5, 6] k (fun kq v5 v6 w' => ∃ (x5_1 : Int) (x6_1 : Int), v5 = .int .u32 x5_1 ∧ v6 = .int .i64 x6_1 ∧ Aside0 (clewref03_On.l0 kq a1 x5_1 x6_1 = some r) ∧ Aside0 (kq ≤ k) ∧ Drawn0 w w')
  case atStart => exact ⟨(Int.tmod a0 16777216), (0), (by first | rfl | (simp; done) | (simp [*]; done)), (by first | rfl | (simp; done) | (simp [*]; done)), H', ⟨Nat.le_refl _⟩, by repeat (first | exact Drawn0.refl _ | apply Drawn0.step)⟩
  case round =>
    clear H'
    try clear p2
    obtain ⟨x5_1, x6_1, rfl, rfl, HA, HK1, ⟨m1, rfl⟩⟩ := hrel
    cases gk with
    | zero => exact absurd HA.out (by simp [clewref03_On.l0])
    | succ k1 =>
      have H := HA.out
      clear HA
      simp only [clewref03_On.l0] at H
      by_cases c3 : x6_1 < (a1.size : Int)
      · rw [if_pos c3] at H
        have c3b0 : decide (x6_1 < (a1.size : Int)) = true := decide_eq_true c3
        clear c3
        obtain ⟨c4, H⟩ := ite_yes_ H
        have c4b0 : decide (0 ≤ x6_1) = true := decide_eq_true c4
        clear c4
        have H' := Aside0.mk H
        clear H
        have p5 : 0 ≤ (x6_1 : Int) := of_decide_eq_true (by first | (with_reducible assumption) | assumption)
        have q5 : x6_1 < (a1.size : Int) := of_decide_eq_true (by first | (with_reducible assumption) | assumption)
        have hx5 := bt_at a1 x6_1
        replace p5 := eq_true p5
        replace q5 := eq_true q5
        go_wp2
        go_loopg [5, 7] k1 (fun kq v5 v7 w' => ∃ (x5_2 : Int) (x7_2 : Int), v5 = .int .u32 x5_2 ∧ v7 = .int .i64 x7_2 ∧ Aside0 (clewref03_On.l1 kq a1 x5_2 x6_1 x7_2 = some r) ∧ Aside0 (kq ≤ k1) ∧ Drawn0 w w')
        case atStart => exact ⟨(Go.bits .xor .u32 x5_1 ((((bt a1 x6_1) % 4294967296) * 65536) % 4294967296)), (0), (by first | rfl | (simp; done) | (simp [*]; done)), (by first | rfl | (simp; done) | (simp [*]; done)), H', ⟨Nat.le_refl _⟩, by repeat (first | exact Drawn0.refl _ | apply Drawn0.step)⟩
        case round =>
          clear H'
          try clear p2
          try clear c3
          try clear c3b0
          try clear c4
          try clear c4b0
          try clear p5
          try clear q5
          try clear hx5
          try clear p2
          try clear p5
          try clear q5
          obtain ⟨x5_2, x7_2, rfl, rfl, HA, HK2, ⟨m2, rfl⟩⟩ := hrel
          cases gk with
          | zero => exact absurd HA.out (by simp [clewref03_On.l1])
          | succ k2 =>
            have H := HA.out
            clear HA
            simp only [clewref03_On.l1] at H
            by_cases c6 : x7_2 < 8
            · rw [if_pos c6] at H
              have c6b0 : decide (x7_2 < 8) = true := decide_eq_true c6
              clear c6
              by_cases c7 : ((x5_2 * 2) % 4294967296) ≥ 16777216
              · rw [if_pos c7] at H
                have c7b0 : decide (16777216 ≤ ((x5_2 * 2) % 4294967296)) = true := decide_eq_true c7
                clear c7
                have H' := Aside0.mk H
                clear H
                go_wp2
                go_roundg k2
                case measure => have := HK1.out; have := HK2.out; omega
                case rel => exact ⟨(Go.bits .xor .u32 ((x5_2 * 2) % 4294967296) 25578747), (wrap64 (x7_2 + 1)), (by first | rfl | (simp; done) | (simp [*]; done)), (by first | rfl | (simp; done) | (simp [*]; done)), H', ⟨by have := HK1.out; have := HK2.out; omega⟩, by repeat (first | exact Drawn0.refl _ | apply Drawn0.step)⟩
              · rw [if_neg c7] at H
                have c7b0 : decide (16777216 ≤ ((x5_2 * 2) % 4294967296)) = false := decide_eq_false c7
                clear c7
                have H' := Aside0.mk H
                clear H
                go_wp2
                go_roundg k2
                case measure => have := HK1.out; have := HK2.out; omega
                case rel => exact ⟨((x5_2 * 2) % 4294967296), (wrap64 (x7_2 + 1)), (by first | rfl | (simp; done) | (simp [*]; done)), (by first | rfl | (simp; done) | (simp [*]; done)), H', ⟨by have := HK1.out; have := HK2.out; omega⟩, by repeat (first | exact Drawn0.refl _ | apply Drawn0.step)⟩
            · rw [if_neg c6] at H
              have c6b0 : decide (x7_2 < 8) = false := decide_eq_false c6
              clear c6
              have H' := Aside0.mk H
              clear H
              go_wp2
              go_roundg k2
              case measure => have := HK1.out; have := HK2.out; omega
              case rel => exact ⟨(x5_2), (wrap64 (x6_1 + 1)), (by first | rfl | (simp; done) | (simp [*]; done)), (by first | rfl | (simp; done) | (simp [*]; done)), H', ⟨by have := HK1.out; have := HK2.out; omega⟩, by repeat (first | exact Drawn0.refl _ | apply Drawn0.step)⟩
      · rw [if_neg c3] at H
        have c3b0 : decide (x6_1 < (a1.size : Int)) = false := decide_eq_false c3
        clear c3
        obtain rfl := Option.some.inj H
        go_wp2
        go_ret
        exact ⟨by first | rfl | (simp; done) | (simp [*]; done), by repeat (first | exact Drawn0.refl _ | apply Drawn0.step)⟩

/-! ### clewref03_Of: function 39 -/
def clewref03_Of.f (k : Nat) (a0 : ByteArray) : Option (Int) := (clewref03_On.f k 11994318 a0).bind fun t136 => (some t136)
theorem clewref03_Of.mono : ∀ a0 k, LeO (clewref03_Of.f k a0) (clewref03_Of.f (k + 1) a0) := by
  intro a0 k
  unfold clewref03_Of.f
  repeat' first
      | (with_reducible exact clewref03_On.mono _ _ _)
      | (with_reducible exact LeO.refl _)
      | (with_reducible exact LeO.none _)
      | (with_reducible refine LeO.ite ?_ ?_)
      | (with_reducible refine LeO.bind ?_ (fun _ => ?_))
      | exact clewref03_On.mono _ _ _
      | exact LeO.none _
      | refine LeO.ite ?_ ?_
      | refine LeO.bind ?_ (fun _ => ?_)
set_option maxHeartbeats 8000000 in
set_option maxRecDepth 100000 in
theorem clewref03_Of.calls (k : Nat) (a0 : ByteArray) (r : Int) (w : World) (h : clewref03_Of.f k a0 = some r) :
    Calls Tryd.prog 39 #[.string a0] w fun e w' => e = .returned (.int .u32 r) ∧ Drawn0 w w' := by
  have H : ((clewref03_On.f k 11994318 a0).bind fun t136 => (some t136)) = some r := h
  clear h
  replace H := Option.bind_eq_some_iff.mp H
  obtain ⟨t136, A20, H⟩ := H
  replace H : (some t136) = some r := H
  have A2 := Aside0.mk A20
  clear A20
  obtain rfl := Option.some.inj H
  go_enter Tryd.func39, Tryd.ntmps39
  go_wp2_with (first | ((with_reducible refine gate_callee (f := 41) rfl ?_); refine goesL_ (some 4) rfl rfl Tryd.func41 (by kernel_rfl) rfl #[.int .u32 11994318, .string a0] rfl (by (try simp only [List.map_toArray, List.map_cons, List.map_nil]); first | done | rfl | (simp only [List.length_drop, List.length_take]; rfl)) ?_; (with_reducible refine (clewref03_On.calls k 11994318 a0 t136 _ A2.out).mono ?_); rintro e w' ⟨rfl, ⟨nd, rfl⟩⟩; refine ⟨_, rfl, ?_⟩))
  go_ret
  exact ⟨by first | rfl | (simp; done) | (simp [*]; done), by repeat (first | exact Drawn0.refl _ | apply Drawn0.step)⟩

/-! ### clewref03_Seal: function 30 -/
def clewref03_Seal.f (k : Nat) (a0 : ByteArray) : Option (ByteArray) := (clewref03_Of.f k a0).bind fun t137 => ((some (([((Int.tdiv t137 65536) % 4294967296) % 256, ((Int.tdiv t137 256) % 4294967296) % 256, (Int.tmod t137 256) % 256] : List Int) : List Int)).bind fun y138 => (if a0.size + (strOfNums y138).size ≤ 9223372036854775807 then (some (a0 ++ (strOfNums y138))) else (none)))
theorem clewref03_Seal.mono : ∀ a0 k, LeO (clewref03_Seal.f k a0) (clewref03_Seal.f (k + 1) a0) := by
  intro a0 k
  unfold clewref03_Seal.f
  repeat' first
      | (with_reducible exact clewref03_Of.mono _ _)
      | (with_reducible exact LeO.refl _)
      | (with_reducible exact LeO.none _)
      | (with_reducible refine LeO.ite ?_ ?_)
      | (with_reducible refine LeO.bind ?_ (fun _ => ?_))
      | exact clewref03_Of.mono _ _
      | exact LeO.none _
      | refine LeO.ite ?_ ?_
      | refine LeO.bind ?_ (fun _ => ?_)
set_option maxHeartbeats 8000000 in
set_option maxRecDepth 100000 in
theorem clewref03_Seal.calls (k : Nat) (a0 : ByteArray) (r : ByteArray) (w : World) (h : clewref03_Seal.f k a0 = some r) :
    Calls Tryd.prog 30 #[.string a0] w fun e w' => e = .returned (.string r) ∧ Below w.heap.size w w' := by
  have HB := Aside0.mk (Below.refl w.heap.size w)
  have H : ((clewref03_Of.f k a0).bind fun t137 => ((some (([((Int.tdiv t137 65536) % 4294967296) % 256, ((Int.tdiv t137 256) % 4294967296) % 256, (Int.tmod t137 256) % 256] : List Int) : List Int)).bind fun y138 => (if a0.size + (strOfNums y138).size ≤ 9223372036854775807 then (some (a0 ++ (strOfNums y138))) else (none)))) = some r := h
  clear h
  replace H := Option.bind_eq_some_iff.mp H
  obtain ⟨t137, A20, H⟩ := H
  replace H : ((some (([((Int.tdiv t137 65536) % 4294967296) % 256, ((Int.tdiv t137 256) % 4294967296) % 256, (Int.tmod t137 256) % 256] : List Int) : List Int)).bind fun y138 => (if a0.size + (strOfNums y138).size ≤ 9223372036854775807 then (some (a0 ++ (strOfNums y138))) else (none))) = some r := H
  have A2 := Aside0.mk A20
  clear A20
  obtain ⟨y138, hy138⟩ : ∃ y_ : List Int, y_ = (([((Int.tdiv t137 65536) % 4294967296) % 256, ((Int.tdiv t137 256) % 4294967296) % 256, (Int.tmod t137 256) % 256] : List Int)) := ⟨_, rfl⟩
  replace H : (if a0.size + (strOfNums y138).size ≤ 9223372036854775807 then (some (a0 ++ (strOfNums y138))) else (none)) = some r := by first | (rw [hy138]; with_reducible exact H) | (have H2_ := (Option.bind_some _ _).symm.trans H; rw [hy138]; with_reducible exact H2_) | (have H2_ := (Option.bind_some _ _).symm.trans H; with_reducible exact H2_) | with_reducible exact H | (rw [hy138]; exact H) | exact H
  have Ny138 := Aside0.mk hy138
  clear hy138
  obtain ⟨c3, H⟩ := ite_yes_ H
  have c3b0 := eq_true c3
  have c3b1 : decide (a0.size + (strOfNums y138).size ≤ 9223372036854775807) = true := decide_eq_true c3
  try have c3b2 : (9223372036854775807 < a0.size + (strOfNums y138).size) = False := eq_false (Nat.not_lt.2 c3)
  obtain rfl := Option.some.inj H
  go_enter Tryd.func30, Tryd.ntmps30
  go_wp2_with (first | ((with_reducible refine gate_callee (f := 39) rfl ?_); refine goesL_ (some 5) rfl rfl Tryd.func39 (by kernel_rfl) rfl #[.string a0] rfl (by (try simp only [List.map_toArray, List.map_cons, List.map_nil]); first | done | rfl | (simp only [List.length_drop, List.length_take]; rfl)) ?_; (with_reducible refine (clewref03_Of.calls k a0 t137 _ A2.out).mono ?_); rintro e w' ⟨rfl, ⟨nd, rfl⟩⟩; refine ⟨_, rfl, ?_⟩) | ((with_reducible refine gate_dst (N := 17) rfl ?_); refine Kd.R_lit (Kd.int .u8) _ 5 ?hg (N := 17) ?hd (xs := ([((Int.tdiv t137 65536) % 4294967296) % 256, ((Int.tdiv t137 256) % 4294967296) % 256, (Int.tmod t137 256) % 256] : List Int)) (inner := [.int .u8 (((Int.tdiv t137 65536) % 4294967296) % 256), .int .u8 (((Int.tdiv t137 256) % 4294967296) % 256), .int .u8 ((Int.tmod t137 256) % 256)]) (ok := fun _ => True) (okp := fun _ => True) ?hr ?hp (fun _ hk => hk) trivial (Below.refl _ _) (Nat.le_refl _) (by simp) ?_; (case hd => rfl); (case hg => rfl); (case hr => first | (go_simp; done) | (go_simp; rfl)); (case hp => exact (Reps.one (show Kd.M (Kd.int .u8) _ _ _ (((Int.tdiv t137 65536) % 4294967296) % 256) [.int .u8 (((Int.tdiv t137 65536) % 4294967296) % 256)] from rfl) (Reps.one (show Kd.M (Kd.int .u8) _ _ _ (((Int.tdiv t137 256) % 4294967296) % 256) [.int .u8 (((Int.tdiv t137 256) % 4294967296) % 256)] from rfl) (Reps.one (show Kd.M (Kd.int .u8) _ _ _ ((Int.tmod t137 256) % 256) [.int .u8 ((Int.tmod t137 256) % 256)] from rfl) (Reps.none _ _))))); intro v139 w4 ho5 hb hg_ hnew_; clear hg_ hnew_; (first | rw [← Ny138.out] at ho5 | (simp only [Int.reduceToNat] at ho5; rw [← Ny138.out] at ho5)); have n0_ := Aside0.mk (Kd.R_lower ho5 (below_size (by repeat (first | (with_reducible first | exact HB.out | apply below_alloc | apply pw_below_drewN | apply below_drew1) | exact HB.out)))); have n1_ := Aside0.mk (below_step (by repeat (first | (with_reducible first | exact HB.out | apply below_alloc | apply pw_below_drewN | apply below_drew1) | exact HB.out)) hb); clear HB; have HO140 := n0_; have HB := n1_; clear n0_ n1_; clear hb ho5; have hcv6 := own_string (P := Tryd.prog) Tryd.underlying38 Tryd.underlying5 Tryd.underlying9 (Kd.own_of_R HO140.out)))
  go_ret
  exact ⟨by first | rfl | (simp [errW_none, errW_some] <;> rfl) | (simp [*, errW_none, errW_some] <;> rfl), by repeat (first | (with_reducible first | exact HB.out | apply below_alloc | apply pw_below_drewN | apply below_drew1) | exact HB.out)⟩

/-! ### clewref03_Open: function 22 -/
def clewref03_Open.f (k : Nat) (a0 : ByteArray) : Option (ByteArray × Int) := if (a0.size : Int) < 3 then (some ((⟨#[]⟩ : ByteArray), 2)) else (if 0 ≤ (wrap64 ((a0.size : Int) - 3)) then (if (wrap64 ((a0.size : Int) - 3)) ≤ (a0.size : Int) then ((clewref03_Seal.f k (a0.extract 0 ((wrap64 ((a0.size : Int) - 3)) : Int).toNat)).bind fun t141 => (if t141.toList = a0.toList then (some (a0.extract 0 ((wrap64 ((a0.size : Int) - 3)) : Int).toNat, 0)) else (some ((⟨#[]⟩ : ByteArray), 8)))) else (none)) else (none))
theorem clewref03_Open.mono : ∀ a0 k, LeO (clewref03_Open.f k a0) (clewref03_Open.f (k + 1) a0) := by
  intro a0 k
  unfold clewref03_Open.f
  repeat' first
      | (with_reducible exact clewref03_Seal.mono _ _)
      | (with_reducible exact LeO.refl _)
      | (with_reducible exact LeO.none _)
      | (with_reducible refine LeO.ite ?_ ?_)
      | (with_reducible refine LeO.bind ?_ (fun _ => ?_))
      | exact clewref03_Seal.mono _ _
      | exact LeO.none _
      | refine LeO.ite ?_ ?_
      | refine LeO.bind ?_ (fun _ => ?_)
set_option maxHeartbeats 8000000 in
set_option maxRecDepth 100000 in
theorem clewref03_Open.calls (k : Nat) (a0 : ByteArray) (r1 : ByteArray) (r2 : Int) (w : World) (h : clewref03_Open.f k a0 = some (r1, r2)) :
    Calls Tryd.prog 22 #[.string a0] w fun e w' => e = .returned (.tuple #[.string r1, .int .i64 r2]) ∧ Below w.heap.size w w' := by
  have HB := Aside0.mk (Below.refl w.heap.size w)
  have H : (if (a0.size : Int) < 3 then (some ((⟨#[]⟩ : ByteArray), 2)) else (if 0 ≤ (wrap64 ((a0.size : Int) - 3)) then (if (wrap64 ((a0.size : Int) - 3)) ≤ (a0.size : Int) then ((clewref03_Seal.f k (a0.extract 0 ((wrap64 ((a0.size : Int) - 3)) : Int).toNat)).bind fun t141 => (if t141.toList = a0.toList then (some (a0.extract 0 ((wrap64 ((a0.size : Int) - 3)) : Int).toNat, 0)) else (some ((⟨#[]⟩ : ByteArray), 8)))) else (none)) else (none))) = some (r1, r2) := h
  clear h
  by_cases c2 : (a0.size : Int) < 3
  · rw [if_pos c2] at H
    have c2b0 : decide ((a0.size : Int) < 3) = true := decide_eq_true c2
    have c2b1 : decide (a0.size < 3) = true := decide_eq_true (by omega)
    clear c2
    simp only [Option.some.injEq, Prod.mk.injEq] at H
    obtain ⟨rfl, rfl⟩ := H
    go_enter Tryd.func22, Tryd.ntmps22
    go_wp2
    go_ret2
    exact ⟨by first | rfl | (simp [errW_none, errW_some] <;> rfl) | (simp [*, errW_none, errW_some] <;> rfl), by repeat (first | (with_reducible first | exact HB.out | apply below_alloc | apply pw_below_drewN | apply below_drew1) | exact HB.out)⟩
  · rw [if_neg c2] at H
    have c2b0 : decide ((a0.size : Int) < 3) = false := decide_eq_false c2
    have c2b1 : decide (a0.size < 3) = false := decide_eq_false (by omega)
    clear c2
    obtain ⟨ji3, hji3⟩ : ∃ j_ : Int, (wrap64 ((a0.size : Int) - 3)) = j_ := ⟨_, rfl⟩
    replace H : (if 0 ≤ (ji3) then (if (ji3) ≤ (a0.size : Int) then ((clewref03_Seal.f k (a0.extract 0 ((ji3) : Int).toNat)).bind fun t141 => (if t141.toList = a0.toList then (some (a0.extract 0 ((ji3) : Int).toNat, 0)) else (some ((⟨#[]⟩ : ByteArray), 8)))) else (none)) else (none)) = some (r1, r2) := by first | (rw [hji3] at H; exact H) | (simp only [hji3] at H ⊢; exact H)
    have hji3w : (IntKind.i64.wrap ((a0.size : Int) - 3)) = ji3 := (i64_w _).trans hji3
    obtain ⟨c4, H⟩ := ite_yes_ H
    have c4b0 := eq_true c4
    have c4b1 : decide (0 ≤ (ji3)) = true := decide_eq_true c4
    clear c4
    obtain ⟨c5, H⟩ := ite_yes_ H
    have c5b0 := eq_true c5
    have c5b1 : decide ((ji3) ≤ (a0.size : Int)) = true := decide_eq_true c5
    clear c5
    replace H := Option.bind_eq_some_iff.mp H
    obtain ⟨t141, A60, H⟩ := H
    replace H : (if t141.toList = a0.toList then (some (a0.extract 0 ((ji3) : Int).toNat, 0)) else (some ((⟨#[]⟩ : ByteArray), 8))) = some (r1, r2) := H
    have A6 := Aside0.mk A60
    clear A60
    by_cases c7 : t141.toList = a0.toList
    · rw [if_pos c7] at H
      have c7b0 : (t141.toList == a0.toList) = true := beq_iff_eq.mpr c7
      have c7b1 : (t141.toList != a0.toList) = false := bne_eq_false_iff_eq.mpr c7
      clear c7
      have c8b0 := eq_true (of_decide_eq_true (by first | (with_reducible assumption) | assumption) : 0 ≤ (ji3))
      have c9b0 := eq_true (of_decide_eq_true (by first | (with_reducible assumption) | assumption) : (ji3) ≤ (a0.size : Int))
      simp only [Option.some.injEq, Prod.mk.injEq] at H
      obtain ⟨rfl, rfl⟩ := H
      go_enter Tryd.func22, Tryd.ntmps22
      go_wp2_with (first | ((with_reducible refine gate_callee (f := 30) rfl ?_); refine goesL_ (some 12) rfl rfl Tryd.func30 (by kernel_rfl) rfl #[.string (a0.extract 0 ((ji3) : Int).toNat)] rfl (by (try simp only [List.map_toArray, List.map_cons, List.map_nil]); first | done | (simp only [hji3]; rfl) | rfl | (simp only [List.length_drop, List.length_take]; rfl)) ?_; (with_reducible refine (clewref03_Seal.calls k (a0.extract 0 ((ji3) : Int).toNat) t141 _ A6.out).mono ?_); rintro e w10 ⟨rfl, hb⟩; refine ⟨_, rfl, ?_⟩; have n0_ := Aside0.mk (below_step (by repeat (first | (with_reducible first | exact HB.out | apply below_alloc | apply pw_below_drewN | apply below_drew1) | exact HB.out)) hb); clear HB; have HB := n0_; clear n0_; (try clear hb); (try clear hb2); (try clear hk); (try clear hi)))
      go_ret2
      exact ⟨by first | rfl | (simp [errW_none, errW_some] <;> rfl) | (simp only [← hji3]; first | rfl | (simp [errW_none, errW_some] <;> rfl)) | (simp [*, errW_none, errW_some] <;> rfl), by repeat (first | (with_reducible first | exact HB.out | apply below_alloc | apply pw_below_drewN | apply below_drew1) | exact HB.out)⟩
    · rw [if_neg c7] at H
      have c7b0 : (t141.toList == a0.toList) = false := beq_eq_false_iff_ne.mpr c7
      have c7b1 : (t141.toList != a0.toList) = true := bne_iff_ne.mpr c7
      simp only [Option.some.injEq, Prod.mk.injEq] at H
      obtain ⟨rfl, rfl⟩ := H
      go_enter Tryd.func22, Tryd.ntmps22
      go_wp2_with (first | ((with_reducible refine gate_callee (f := 30) rfl ?_); refine goesL_ (some 12) rfl rfl Tryd.func30 (by kernel_rfl) rfl #[.string (a0.extract 0 ((ji3) : Int).toNat)] rfl (by (try simp only [List.map_toArray, List.map_cons, List.map_nil]); first | done | (simp only [hji3]; rfl) | rfl | (simp only [List.length_drop, List.length_take]; rfl)) ?_; (with_reducible refine (clewref03_Seal.calls k (a0.extract 0 ((ji3) : Int).toNat) t141 _ A6.out).mono ?_); rintro e w11 ⟨rfl, hb⟩; refine ⟨_, rfl, ?_⟩; have n0_ := Aside0.mk (below_step (by repeat (first | (with_reducible first | exact HB.out | apply below_alloc | apply pw_below_drewN | apply below_drew1) | exact HB.out)) hb); clear HB; have HB := n0_; clear n0_; (try clear hb); (try clear hb2); (try clear hk); (try clear hi)))
      go_ret2
      exact ⟨by first | rfl | (simp [errW_none, errW_some] <;> rfl) | (simp only [← hji3]; first | rfl | (simp [errW_none, errW_some] <;> rfl)) | (simp [*, errW_none, errW_some] <;> rfl), by repeat (first | (with_reducible first | exact HB.out | apply below_alloc | apply pw_below_drewN | apply below_drew1) | exact HB.out)⟩

end Go.Proofs.YtamalmopbncibaaDoor.PK
