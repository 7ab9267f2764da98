/- The document's Get; a Caps for the document. -/
import Derived.Test.YtcgcoblecpbgbaaDoorCWith
namespace Go.Proofs.YtcgcoblecpbgbaaDoor.CP
open Go.RowKit Go.Proofs.YtcgcoblecpbgbaaDoorW.PrintWords Go.Proofs.YtcgcoblecpbgbaaDoorW.PrintLast Go.Proofs.YtcgcoblecpbgbaaDoorW.PrintMore
attribute [local go_sem] max2_int min2_int max_two min_two max_three min_three max_four min_four
set_option linter.unusedVariables false
set_option linter.unusedSimpArgs false
attribute [-go_sem] loadVar storeVar
attribute [local go_sem] load3 load4 store4 store23
set_option maxHeartbeats 2000000 in
set_option maxRecDepth 100000 in
theorem ref_Get.calls (b : List Bool) (p : List Int) (g : Int) (w : World) (hb : b.length = 9) (hp : p.length = 18) :
    Calls Tryd.prog 12 #[.agg (capsC b p).toArray, .int .i64 g] w fun e w' => e = .returned (getV (getB b p g)) ∧ Below w.heap.size w w' := by
  have HB := Aside0.mk ((Below.refl w.heap.size w).alloc (Nat.le_refl _) (.cells (capsC b p).toArray 28))
  by_cases c1 : 1 ≤ g
  · have d1 : decide (g < 1) = false := decide_eq_false (by omega)
    by_cases c2 : g ≤ 9
    · have d2 : decide (9 < g) = false := decide_eq_false (by omega)
      have d3 : decide (g > 9) = false := decide_eq_false (by omega)
      have hc : (capsC b p)[g.toNat - 1]? = some (.bool (b.getD (g.toNat - 1) false)) := capsC_bool b p _ (by omega)
      have hh : hasB b g = b.getD (g.toNat - 1) false := by
        unfold hasB
        rw [decide_eq_true c1, decide_eq_true c2, show (g - 1).toNat = g.toNat - 1 by omega]
        rfl
      cases hv : b.getD (g.toNat - 1) false with
      | false =>
        rw [hv] at hc hh
        have HR := Aside0.mk (getB_none b p hh)
        clear hh hv
        go_enter Tryd.func12, Tryd.ntmps12
        go_wp2
        go_ret3
        rw [HR.out]
        exact ⟨rfl, HB.out⟩
      | true =>
        rw [hv] at hc hh
        have HR : Aside0 (getB b p g = (p.getD ((g.toNat - 1) * 2) 0, p.getD ((g.toNat - 1) * 2 + 1) 0, true)) := ⟨by
          unfold getB
          rw [if_pos hh, Nat.mul_comm]⟩
        have hx : (capsC b p)[9 + (g.toNat - 1) * 2]? = some (.int .i64 (p.getD ((g.toNat - 1) * 2) 0)) := by
          have := capsC_int b p ((g.toNat - 1) * 2) (by omega)
          rw [hb] at this
          exact this
        have hy : (capsC b p)[9 + (g.toNat - 1) * 2 + 1]? = some (.int .i64 (p.getD ((g.toNat - 1) * 2 + 1) 0)) := by
          have := capsC_int b p ((g.toNat - 1) * 2 + 1) (by omega)
          rw [hb] at this
          exact this
        have hw1 : IntKind.i64.wrap (g - 1) = g - 1 := IntWalk.i64_in _ (by omega)
        have hw2 : 0 ≤ g - 1 := by omega
        have hw3 : g - 1 < 9 := by omega
        have hw4 : (g - 1).toNat = g.toNat - 1 := by omega
        clear hh hv hb hp
        go_enter Tryd.func12, Tryd.ntmps12
        go_wp2_with fail
        go_quiet (fail)
        go_wp2
        go_ret3
        rw [HR.out]
        exact ⟨rfl, pw_below_drewN HB.out _⟩
    · have d2 : decide (9 < g) = true := decide_eq_true (by omega)
      have d3 : decide (g > 9) = true := decide_eq_true (by omega)
      have HR := Aside0.mk (getB_none b p (g := g) (by unfold hasB; rw [decide_eq_false (show ¬ g ≤ 9 from c2)]; simp))
      go_enter Tryd.func12, Tryd.ntmps12
      go_wp2
      go_ret3
      rw [HR.out]
      exact ⟨rfl, HB.out⟩
  · have d1 : decide (g < 1) = true := decide_eq_true (by omega)
    have HR := Aside0.mk (getB_none b p (g := g) (by unfold hasB; rw [decide_eq_false (show ¬ 1 ≤ g from c1)]; simp))
    go_enter Tryd.func12, Tryd.ntmps12
    go_wp2
    go_ret3
    rw [HR.out]
    exact ⟨rfl, HB.out⟩
theorem build_is (b : List Bool) (hb : b.length = 9) : List.foldl (fun (cs : Array Value) (x : Value × Nat) => cs.setIfInBounds x.snd x.fst) zeroA (List.map Value.bool b).zipIdx = (capsC b zero18).toArray := by
  obtain ⟨b0, b1, b2, b3, b4, b5, b6, b7, b8, rfl⟩ := nine hb
  kernel_rfl
theorem build_at (b : List Bool) (p : List Int) (hb : b.length = 9) (hp : p.length = 18) : List.foldl (fun (cs : Array Value) (x : Value × Nat) => cs.setIfInBounds (9 + x.snd) x.fst) (capsC b zero18).toArray (List.map (Value.int .i64) p).zipIdx = (capsC b p).toArray := by
  obtain ⟨b0, b1, b2, b3, b4, b5, b6, b7, b8, rfl⟩ := nine hb
  obtain ⟨p0, p1, p2, p3, p4, p5, p6, p7, p8, p9, p10, p11, p12, p13, p14, p15, p16, p17, rfl⟩ := eighteen hp
  kernel_rfl
theorem results_ref {fn : Func} {p : Tmp} (h : fn.results = #[.cell p 28]) (tmps : Array Value) (w : World) (g : Nat) (b : List Bool) (q : List Int)
    (hp : tmps.getD p undef = .pointer (some ⟨g, 0, none⟩)) (hl : Lies w g 28 b q) : (results fn tmps).run Tryd.prog w = .ok (.agg (capsC b q).toArray) w :=
  results_cell_row h tmps w g 28 _ (0, 0) _ hp hl.1 Tryd.underlying28 rfl (by rw [size28]; simp [capsC_length, hl.2.1, hl.2.2])
theorem size24 : (Tryd.prog.info? 24).map (·.size) = some 18 := by kernel_rfl
theorem load_pairs {w : World} {g : Nat} {b : List Bool} {p : List Int} (h : At w g (capsC b p)) (hb : b.length = 9) (hp : p.length = 18) :
    (loadVar 24 ⟨g, 9, none⟩).run Tryd.prog w = .ok (.agg (p.map (Value.int .i64)).toArray) w :=
  run_loadVar_mid w g 9 24 _ _ (fun j v hj => by
    refine h (9 + j) v ?_
    unfold capsC
    rw [List.getElem?_append_right (by simp; omega), List.length_map, hb, Nat.add_sub_cancel_left]
    exact hj) Tryd.underlying24 rfl (by rw [size24, List.length_map, hp])
set_option maxHeartbeats 2000000 in
set_option maxRecDepth 100000 in
theorem law_Ref.calls (b : List Bool) (p : List Int) (w : World) (hb : b.length = 9) (hp : p.length = 18) :
    Calls Tryd.prog 8 #[.agg (capsC b p).toArray] w fun e w' => e = .returned (.agg (capsC b p).toArray) ∧ Below w.heap.size w w' := by
  have l1 : Lies ((w.alloc (.cells (capsC b p).toArray 26)).alloc (.cells zeroA 28)) w.heap.size 26 b p := (lies_new w 26 b p hb hp).far (heap_alloc_old _ _ (by simp))
  have l2 : Lies ((w.alloc (.cells (capsC b p).toArray 26)).alloc (.cells zeroA 28)) (w.heap.size + 1) 28 zero9 zero18 := ⟨heap_alloc2_new w _ _, rfl, rfl⟩
  have h22 := load_is l1.at hb
  have h24 := load_pairs l1.at hb hp
  obtain ⟨hst, l8d⟩ := l2.store (.inr rfl) hb hp
  have L8 := Aside0.mk l8d
  have hf1 := build_is b hb
  have hf2 := build_at b p hb hp
  have hf3 : (capsC b zero18).length = 27 := by rw [capsC_length, hb]; rfl
  have HB := Aside0.mk (((Below.refl w.heap.size w).alloc (Nat.le_refl _) (.cells (capsC b p).toArray 26)).alloc (by simp) (.cells zeroA 28))
  clear l1 l2 l8d
  go_enter Tryd.func8, Tryd.ntmps8
  go_wp2_with fail
  refine bodyPost_ret (results_ref rfl _ _ (w.heap.size + 1) _ _ rfl L8.out) rfl ?_
  exact ⟨rfl, below_setRow HB.out (by omega) _⟩
end Go.Proofs.YtcgcoblecpbgbaaDoor.CP
