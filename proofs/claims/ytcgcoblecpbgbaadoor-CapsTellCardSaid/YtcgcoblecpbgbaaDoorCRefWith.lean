/- The document's With. -/
import Derived.Test.YtcgcoblecpbgbaaDoorCWith
namespace Go.Proofs.YtcgcoblecpbgbaaDoor.CP
open Go.RowKit Go.Proofs.YtcgcoblecpbgbaaDoorW.PrintWords Go.Proofs.YtcgcoblecpbgbaaDoorW.PrintLast Go.Proofs.YtcgcoblecpbgbaaDoorW.PrintMore
attribute [local go_sem] max2_int min2_int max_two min_two max_three min_three max_four min_four
set_option linter.unusedVariables false
set_option linter.unusedSimpArgs false
attribute [-go_sem] loadVar storeVar
attribute [local go_sem] load3 load4 store4 store23
set_option maxHeartbeats 2000000 in
set_option maxRecDepth 100000 in
theorem ref_With.calls (b : List Bool) (p : List Int) (g f t : Int) (w : World) (hb : b.length = 9) (hp : p.length = 18) :
    Calls Tryd.prog 10 #[.agg (capsC b p).toArray, .int .i64 g, .int .i64 f, .int .i64 t] w fun e w' => e = .returned (.tuple #[.agg (capsC (withB b g f t) (withP p g f t)).toArray, .int .i64 (withE g f t)]) ∧ Below w.heap.size w w' := by
  by_cases c1 : 1 ≤ g
  · have d1 : decide (g < 1) = false := decide_eq_false (by omega)
    by_cases c2 : g ≤ 9
    · have d2 : decide (9 < g) = false := decide_eq_false (by omega)
      have d3 : decide (g > 9) = false := decide_eq_false (by omega)
      cases hr : riseB f t with
      | true =>
        go_enter Tryd.func10, Tryd.ntmps10
        go_wp2_with fail
        refine (clewref10_may.calls f t true _ (by rw [may_eq, hr])).mono ?_
        rintro e w1 ⟨rfl, hd⟩
        obtain ⟨l4, l8, hB⟩ := with_start hb hp hd.below
        have hi : g.toNat - 1 < 9 := by omega
        have s1 := l4.cellB _ hi
        have l4a := l4.set_bool (g.toNat - 1) true hi
        have s2 := l4a.cellI ((g.toNat - 1) * 2) (by omega)
        have s3 := l4a.cellI1 ((g.toNat - 1) * 2) (by omega)
        have l4b := l4a.set_int ((g.toNat - 1) * 2) f (by omega)
        have l4c := l4b.set_int1 ((g.toNat - 1) * 2) t (by omega)
        have l8c : Lies _ (w.heap.size + 1) 28 zero9 zero18 := ((l8.far (heap_setCell_other w1 ⟨w.heap.size, g.toNat - 1, none⟩ _ (.bool true) (by simp))).far (heap_setCell_other _ ⟨w.heap.size, 9 + (g.toNat - 1) * 2, none⟩ _ (.int .i64 f) (by simp))).far (heap_setCell_other _ ⟨w.heap.size, 9 + (g.toNat - 1) * 2 + 1, none⟩ _ (.int .i64 t) (by simp))
        have hld := l4c.load8
        obtain ⟨hst, l8d⟩ := l8c.store (.inr rfl) l4c.2.1 l4c.2.2
        obtain ⟨s1a, s1b⟩ := s1
        obtain ⟨s2a, s2b⟩ := s2
        obtain ⟨s3a, s3b⟩ := s3
        have L8 := Aside0.mk l8d
        have HB := Aside0.mk hB
        clear l4 l8 l4a l4b l4c l8c l8d hB hd hb hp
        go_wp2_with fail
        refine bodyPost_ret (results_caps rfl (.inr rfl) _ _ (w.heap.size + 1) _ _ rfl L8.out) rfl ?_
        have ho : withOk g f t = true := by unfold withOk; rw [hr, decide_eq_true c1, decide_eq_true c2]; rfl
        refine ⟨?_, ?_⟩
        · unfold withB withP withE
          rw [if_pos ho, if_pos ho, if_pos ho]
          rfl
        · exact below_setRow (((HB.out.setCell (by exact Nat.le_refl _) _).setCell (by exact Nat.le_refl _) _).setCell (by exact Nat.le_refl _) _) (by omega) _
      | false =>
        have ho : ¬ withOk g f t = true := by unfold withOk; rw [hr]; simp
        go_enter Tryd.func10, Tryd.ntmps10
        go_wp2_with fail
        refine (clewref10_may.calls f t false _ (by rw [may_eq, hr])).mono ?_
        rintro e w1 ⟨rfl, hd⟩
        obtain ⟨_, l8, hB⟩ := with_start hb hp hd.below
        obtain ⟨hst, l8d⟩ := l8.store (c := zero9) (q := zero18) (.inr rfl) rfl rfl
        have L8 := Aside0.mk l8d
        have HB := Aside0.mk hB
        clear l8 l8d hB hd hb hp
        replace hst : (storeVar 28 ⟨w.heap.size + 1, 0, none⟩ zeroV).run Tryd.prog w1 = .ok () (w1.setRow (w.heap.size + 1) (capsC zero9 zero18).toArray) := hst
        go_wp2_with fail
        refine bodyPost_ret (results_caps rfl (.inr rfl) _ _ (w.heap.size + 1) _ _ rfl L8.out) rfl ?_
        refine ⟨?_, ?_⟩
        · unfold withB withP withE
          rw [if_neg ho, if_neg ho, if_neg ho]
          rfl
        · exact below_setRow HB.out (by omega) _
    · have d2 : decide (9 < g) = true := decide_eq_true (by omega)
      have d3 : decide (g > 9) = true := decide_eq_true (by omega)
      have ho : ¬ withOk g f t = true := by unfold withOk; rw [decide_eq_false (show ¬ g ≤ 9 from c2)]; simp
      obtain ⟨_, l8, hB⟩ := with_start (w := w) (t := 28) hb hp (Below.refl _ _)
      obtain ⟨hst, l8d⟩ := l8.store (c := zero9) (q := zero18) (.inr rfl) rfl rfl
      have L8 := Aside0.mk l8d
      have HB := Aside0.mk hB
      clear l8 l8d hB hb hp
      replace hst : (storeVar 28 ⟨w.heap.size + 1, 0, none⟩ zeroV).run Tryd.prog ((w.alloc (.cells (capsC b p).toArray 28)).alloc (.cells zeroA 28)) = .ok () (((w.alloc (.cells (capsC b p).toArray 28)).alloc (.cells zeroA 28)).setRow (w.heap.size + 1) (capsC zero9 zero18).toArray) := hst
      go_enter Tryd.func10, Tryd.ntmps10
      go_wp2_with fail
      refine bodyPost_ret (results_caps rfl (.inr rfl) _ _ (w.heap.size + 1) _ _ rfl L8.out) rfl ?_
      refine ⟨?_, ?_⟩
      · unfold withB withP withE
        rw [if_neg ho, if_neg ho, if_neg ho]
        rfl
      · exact below_setRow HB.out (by omega) _
  · have d1 : decide (g < 1) = true := decide_eq_true (by omega)
    have ho : ¬ withOk g f t = true := by unfold withOk; rw [decide_eq_false (show ¬ 1 ≤ g from c1)]; simp
    obtain ⟨_, l8, hB⟩ := with_start (w := w) (t := 28) hb hp (Below.refl _ _)
    obtain ⟨hst, l8d⟩ := l8.store (c := zero9) (q := zero18) (.inr rfl) rfl rfl
    have L8 := Aside0.mk l8d
    have HB := Aside0.mk hB
    clear l8 l8d hB hb hp
    replace hst : (storeVar 28 ⟨w.heap.size + 1, 0, none⟩ zeroV).run Tryd.prog ((w.alloc (.cells (capsC b p).toArray 28)).alloc (.cells zeroA 28)) = .ok () (((w.alloc (.cells (capsC b p).toArray 28)).alloc (.cells zeroA 28)).setRow (w.heap.size + 1) (capsC zero9 zero18).toArray) := hst
    go_enter Tryd.func10, Tryd.ntmps10
    go_wp2_with fail
    refine bodyPost_ret (results_caps rfl (.inr rfl) _ _ (w.heap.size + 1) _ _ rfl L8.out) rfl ?_
    refine ⟨?_, ?_⟩
    · unfold withB withP withE
      rw [if_neg ho, if_neg ho, if_neg ho]
      rfl
    · exact below_setRow HB.out (by omega) _
end Go.Proofs.YtcgcoblecpbgbaaDoor.CP
