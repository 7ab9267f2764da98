/- Caps: its value, and 'has'. -/
import Derived.Test.YtcgcoblecpbgbaaDoorCPx1
namespace Go.Proofs.YtcgcoblecpbgbaaDoor.CP
open Go.RowKit Go.Proofs.YtcgcoblecpbgbaaDoorW.PrintWords Go.Proofs.YtcgcoblecpbgbaaDoorW.PrintLast Go.Proofs.YtcgcoblecpbgbaaDoorW.PrintMore
attribute [local go_sem] max2_int min2_int max_two min_two max_three min_three max_four min_four
set_option linter.unusedVariables false
set_option linter.unusedSimpArgs false

/-- The cells of a Caps: which groups matched; from where to where. -/
def capsC (b : List Bool) (p : List Int) : List Value := b.map Value.bool ++ p.map (Value.int .i64)
def capsV (b : List Bool) (p : List Int) : Value := .agg (capsC b p).toArray
theorem capsC_length (b : List Bool) (p : List Int) : (capsC b p).length = b.length + p.length := by simp [capsC]
theorem capsC_bool (b : List Bool) (p : List Int) (j : Nat) (h : j < b.length) : (capsC b p)[j]? = some (.bool (b.getD j false)) := by
  unfold capsC
  rw [List.getElem?_append_left (by simpa using h), List.getElem?_map, List.getElem?_eq_getElem h, List.getD_eq_getElem?_getD, List.getElem?_eq_getElem h]
  rfl
theorem capsC_int (b : List Bool) (p : List Int) (j : Nat) (h : j < p.length) : (capsC b p)[b.length + j]? = some (.int .i64 (p.getD j 0)) := by
  unfold capsC
  rw [List.getElem?_append_right (by simp), List.length_map, Nat.add_sub_cancel_left, List.getElem?_map, List.getElem?_eq_getElem h, List.getD_eq_getElem?_getD, List.getElem?_eq_getElem h]
  rfl
def hasB (b : List Bool) (g : Int) : Bool := decide (1 ≤ g) && (decide (g ≤ 9) && b.getD (g - 1).toNat false)

set_option maxHeartbeats 2000000 in
set_option maxRecDepth 100000 in
theorem caps_has.calls (b : List Bool) (p : List Int) (g : Int) (w : World) (hb : b.length = 9) (hp : p.length = 18) :
    Calls Tryd.prog 22 #[.agg (capsC b p).toArray, .int .i64 g] w fun e w' => e = .returned (.bool (hasB b g)) ∧ Below w.heap.size w w' := by
  by_cases c1 : 1 ≤ g
  · by_cases c2 : g ≤ 9
    · have d1 : decide (1 ≤ g) = true := decide_eq_true c1
      have d2 : decide (g ≤ 9) = true := decide_eq_true c2
      have hc : (capsC b p)[g.toNat - 1]? = some (.bool (b.getD (g.toNat - 1) false)) := capsC_bool b p _ (by omega)
      have hr : hasB b g = b.getD (g.toNat - 1) false := by
        unfold hasB
        rw [d1, d2, show (g - 1).toNat = g.toNat - 1 by omega]
        rfl
      go_enter Tryd.func22, Tryd.ntmps22
      go_wp2
      go_ret
      (try rw [hr])
      exact ⟨rfl, (Below.refl _ _).alloc (Nat.le_refl _) _⟩
    · have d1 : decide (1 ≤ g) = true := decide_eq_true c1
      have d2 : decide (g ≤ 9) = false := decide_eq_false c2
      have hr : hasB b g = false := by unfold hasB; rw [d2]; simp
      go_enter Tryd.func22, Tryd.ntmps22
      go_wp2
      go_ret
      (try rw [hr])
      exact ⟨rfl, (Below.refl _ _).alloc (Nat.le_refl _) _⟩
  · have d1 : decide (1 ≤ g) = false := decide_eq_false c1
    have hr : hasB b g = false := by unfold hasB; rw [d1]; simp
    go_enter Tryd.func22, Tryd.ntmps22
    go_wp2
    go_ret
    (try rw [hr])
    exact ⟨rfl, (Below.refl _ _).alloc (Nat.le_refl _) _⟩
end Go.Proofs.YtcgcoblecpbgbaaDoor.CP
