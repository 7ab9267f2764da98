/- Get. -/
import Derived.Test.YtcgcoblecpbgbaaDoorCVal
namespace Go.Proofs.YtcgcoblecpbgbaaDoor.CP
open Go.RowKit Go.Proofs.YtcgcoblecpbgbaaDoorW.PrintWords Go.Proofs.YtcgcoblecpbgbaaDoorW.PrintLast Go.Proofs.YtcgcoblecpbgbaaDoorW.PrintMore
attribute [local go_sem] max2_int min2_int max_two min_two max_three min_three max_four min_four
set_option linter.unusedVariables false
set_option linter.unusedSimpArgs false

def getB (b : List Bool) (p : List Int) (g : Int) : Int × Int × Bool := if hasB b g = true then (p.getD (2 * (g.toNat - 1)) 0, p.getD (2 * (g.toNat - 1) + 1) 0, true) else (0, 0, false)
def getV (x : Int × Int × Bool) : Value := .tuple #[.int .i64 x.1, .int .i64 x.2.1, .bool x.2.2]
theorem getB_none (b : List Bool) (p : List Int) {g : Int} (h : hasB b g = false) : getB b p g = (0, 0, false) := by
  unfold getB
  rw [h]
  rfl
theorem hasB_zero (g : Int) : hasB [false, false, false, false, false, false, false, false, false] g = false := by
  have : ∀ n : Nat, [false, false, false, false, false, false, false, false, false].getD n false = false := by
    intro n
    rcases Nat.lt_or_ge n 9 with h | h
    · have : ∀ m : Fin 9, [false, false, false, false, false, false, false, false, false].getD m.1 false = false := by decide
      exact this ⟨n, h⟩
    · rw [List.getD_eq_getElem?_getD, List.getElem?_eq_none (by simpa using h)]
      rfl
  unfold hasB
  rw [this]
  simp
def zero9 : List Bool := [false, false, false, false, false, false, false, false, false]
abbrev zero9V : Value := .agg #[.bool false, .bool false, .bool false, .bool false, .bool false, .bool false, .bool false, .bool false, .bool false]
theorem eq_zero (w : World) (b : List Bool) (hb : b.length = 9) : (Op.equalIn 10000 22 (.agg (b.map Value.bool).toArray) zero9V).run Tryd.prog w = .ok (decide (b = zero9)) w := eq_is w b zero9 hb rfl
theorem hasB_range {b : List Bool} {g : Int} (h : hasB b g = true) : 1 ≤ g ∧ g ≤ 9 := by
  unfold hasB at h
  simp at h
  exact ⟨h.1, h.2.1⟩
attribute [-go_sem] loadVar
attribute [local go_sem] load3 load4
set_option maxHeartbeats 2000000 in
set_option maxRecDepth 100000 in
theorem caps_Get.calls (b : List Bool) (p : List Int) (g : Int) (w : World) (hb : b.length = 9) (hp : p.length = 18) :
    Calls Tryd.prog 11 #[.agg (capsC b p).toArray, .int .i64 g] w fun e w' => e = .returned (getV (getB b p g)) ∧ Below w.heap.size w w' := by
  have hA := at_new w 26 (capsC b p)
  have h22 := load_is hA hb
  have h26 := load_caps hA hb hp
  clear hA
  by_cases c0 : b = zero9
  · have heq : ∀ w, (Op.equalIn 10000 22 (.agg (b.map Value.bool).toArray) zero9V).run Tryd.prog w = .ok true w := fun w => by rw [eq_zero w b hb, decide_eq_true c0]
    have hr : getB b p g = (0, 0, false) := getB_none b p (by rw [c0]; exact hasB_zero g)
    clear c0
    go_enter Tryd.func11, Tryd.ntmps11
    go_wp2
    go_ret3
    rw [hr]
    exact ⟨rfl, (Below.refl _ _).alloc (Nat.le_refl _) _⟩
  · have heq : ∀ w, (Op.equalIn 10000 22 (.agg (b.map Value.bool).toArray) zero9V).run Tryd.prog w = .ok false w := fun w => by rw [eq_zero w b hb, decide_eq_false c0]
    cases hh : hasB b g with
    | false =>
      have hr : getB b p g = (0, 0, false) := getB_none b p hh
      go_enter Tryd.func11, Tryd.ntmps11
      go_wp2_with fail
      refine (caps_has.calls b p g _ hb hp).mono ?_
      rintro e w1 ⟨rfl, hb1⟩
      rw [hh]
      go_wp2
      go_ret3
      rw [hr]
      exact ⟨rfl, ((Below.refl _ _).alloc (Nat.le_refl _) _).trans (hb1.mono (by simp))⟩
    | true =>
      have hg := hasB_range hh
      go_enter Tryd.func11, Tryd.ntmps11
      go_wp2_with fail
      refine (caps_has.calls b p g _ hb hp).mono ?_
      rintro e w1 ⟨rfl, hb1⟩
      rw [hh]
      have hA1 : At w1 w.heap.size (capsC b p) := (at_new w 26 (capsC b p)).below (hb1.mono (Nat.le_refl _)) (by simp)
      have hx := load_at hA1 hb ((g.toNat - 1) * 2) (by omega)
      have hy : w1.cell? ⟨w.heap.size, 9 + (g.toNat - 1) * 2 + 1, none⟩ = _ := load_at hA1 hb ((g.toNat - 1) * 2 + 1) (by omega)
      have hr : getB b p g = (p.getD ((g.toNat - 1) * 2) 0, p.getD ((g.toNat - 1) * 2 + 1) 0, true) := by
        unfold getB
        rw [if_pos hh, Nat.mul_comm]
      clear c0 heq h22 h26 hh
      have hw1 : IntKind.i64.wrap (g - 1) = g - 1 := IntWalk.i64_in _ (by omega)
      have hw2 : 0 ≤ g - 1 := by omega
      have hw3 : g - 1 < 9 := by omega
      have hw4 : (g - 1).toNat = g.toNat - 1 := by omega
      have hbel : Below w.heap.size w w1 := ((Below.refl _ _).alloc (Nat.le_refl _) _).trans (hb1.mono (by simp))
      have HR := Aside0.mk hr
      have HB := Aside0.mk hbel
      clear hr hbel hb1 hA1
      go_wp2_with fail
      go_quiet (fail)
      go_wp2
      go_ret3
      rw [HR.out]
      exact ⟨rfl, pw_below_drewN HB.out _⟩
end Go.Proofs.YtcgcoblecpbgbaaDoor.CP
