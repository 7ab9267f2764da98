-- Written by wip/tools/xprint.py of this session, over the kit's print.
import Derived.Test.YtamalmopbncibaaDoorPKx0
import Derived.Test.YtamalmopbncibaaDoorPKx5
namespace Go.Proofs.YtamalmopbncibaaDoor.PK
open Go.RowKit Go.Proofs.YtamalmopbncibaaDoorW.PrintWords Go.Proofs.YtamalmopbncibaaDoorW.PrintLast Go.Proofs.YtamalmopbncibaaDoorW.PrintMore
attribute [local go_sem] max2_int min2_int max_two min_two max_three min_three max_four min_four   -- for this text's walks alone
set_option linter.unusedVariables false
set_option linter.unusedSimpArgs false

/-! ### clewref15_Right: function 24 -/
mutual
def clewref15_Right.l0 : Nat → List (S52) → Int → Int → Option (Bool)
  | 0, _, _, _ => none
  | k + 1, x0, x3, x4 => if x4 < (x0.length : Int) then (if 0 ≤ x4 then (if ((rd_T52 x0 x4).f0) < 0 then (clewref15_Right.j1 k x0 x3 x4 true ((rd_T52 x0 x4).f0) ((rd_T52 x0 x4).f1)) else (if ((rd_T52 x0 x4).f0) > 5 then (clewref15_Right.j1 k x0 x3 x4 true ((rd_T52 x0 x4).f0) ((rd_T52 x0 x4).f1)) else (if ((rd_T52 x0 x4).f0) = 0 then ((clewref15_skips.f ((rd_T52 x0 x4).f1)).bind fun t154 => (if t154 = true then (if ((rd_T52 x0 x4).f0) = 5 then (if ((rd_T52 x0 x4).f1) < 0 then (clewref15_Right.j1 k x0 x3 x4 true ((rd_T52 x0 x4).f0) ((rd_T52 x0 x4).f1)) else (if ((rd_T52 x0 x4).f1) ≥ x3 then (clewref15_Right.j1 k x0 x3 x4 true ((rd_T52 x0 x4).f0) ((rd_T52 x0 x4).f1)) else (if ((rd_T52 x0 x4).f0) > 0 then (if ((rd_T52 x0 x4).f0) < 5 then (clewref15_Right.j1 k x0 x3 x4 (((rd_T52 x0 x4).f1) != 0) ((rd_T52 x0 x4).f0) ((rd_T52 x0 x4).f1)) else (clewref15_Right.j1 k x0 x3 x4 false ((rd_T52 x0 x4).f0) ((rd_T52 x0 x4).f1))) else (clewref15_Right.j1 k x0 x3 x4 false ((rd_T52 x0 x4).f0) ((rd_T52 x0 x4).f1))))) else (if ((rd_T52 x0 x4).f0) > 0 then (if ((rd_T52 x0 x4).f0) < 5 then (clewref15_Right.j1 k x0 x3 x4 (((rd_T52 x0 x4).f1) != 0) ((rd_T52 x0 x4).f0) ((rd_T52 x0 x4).f1)) else (clewref15_Right.j1 k x0 x3 x4 false ((rd_T52 x0 x4).f0) ((rd_T52 x0 x4).f1))) else (clewref15_Right.j1 k x0 x3 x4 false ((rd_T52 x0 x4).f0) ((rd_T52 x0 x4).f1)))) else (clewref15_Right.j1 k x0 x3 x4 true ((rd_T52 x0 x4).f0) ((rd_T52 x0 x4).f1)))) else (if ((rd_T52 x0 x4).f0) = 5 then (if ((rd_T52 x0 x4).f1) < 0 then (clewref15_Right.j1 k x0 x3 x4 true ((rd_T52 x0 x4).f0) ((rd_T52 x0 x4).f1)) else (if ((rd_T52 x0 x4).f1) ≥ x3 then (clewref15_Right.j1 k x0 x3 x4 true ((rd_T52 x0 x4).f0) ((rd_T52 x0 x4).f1)) else (if ((rd_T52 x0 x4).f0) > 0 then (if ((rd_T52 x0 x4).f0) < 5 then (clewref15_Right.j1 k x0 x3 x4 (((rd_T52 x0 x4).f1) != 0) ((rd_T52 x0 x4).f0) ((rd_T52 x0 x4).f1)) else (clewref15_Right.j1 k x0 x3 x4 false ((rd_T52 x0 x4).f0) ((rd_T52 x0 x4).f1))) else (clewref15_Right.j1 k x0 x3 x4 false ((rd_T52 x0 x4).f0) ((rd_T52 x0 x4).f1))))) else (if ((rd_T52 x0 x4).f0) > 0 then (if ((rd_T52 x0 x4).f0) < 5 then (clewref15_Right.j1 k x0 x3 x4 (((rd_T52 x0 x4).f1) != 0) ((rd_T52 x0 x4).f0) ((rd_T52 x0 x4).f1)) else (clewref15_Right.j1 k x0 x3 x4 false ((rd_T52 x0 x4).f0) ((rd_T52 x0 x4).f1))) else (clewref15_Right.j1 k x0 x3 x4 false ((rd_T52 x0 x4).f0) ((rd_T52 x0 x4).f1))))))) else (none)) else (some true)
def clewref15_Right.j1 : Nat → List (S52) → Int → Int → Bool → Int → Int → Option (Bool)
  | 0, _, _, _, _, _, _ => none
  | k + 1, x0, x3, x4, x68, x154000, x154001 => if x68 = true then (some false) else (if x4 = 0 then (clewref15_Right.j2 k x0 x3 x4 (decide (x154000 > 1)) x154000 x154001) else (clewref15_Right.j2 k x0 x3 x4 false x154000 x154001))
def clewref15_Right.j2 : Nat → List (S52) → Int → Int → Bool → Int → Int → Option (Bool)
  | 0, _, _, _, _, _, _ => none
  | k + 1, x0, x3, x4, x75, x154000, x154001 => if x75 = true then (some false) else (if x154000 = 0 then (if (wrap64 (x4 + 1)) < (x0.length : Int) then (if 0 ≤ (wrap64 (x4 + 1)) then (clewref15_Right.j3 k x0 x3 x4 (((rd_T52 x0 (wrap64 (x4 + 1))).f0) != 1) x154000 x154001) else (none)) else (clewref15_Right.j3 k x0 x3 x4 false x154000 x154001)) else (clewref15_Right.j3 k x0 x3 x4 false x154000 x154001))
def clewref15_Right.j3 : Nat → List (S52) → Int → Int → Bool → Int → Int → Option (Bool)
  | 0, _, _, _, _, _, _ => none
  | k + 1, x0, x3, x4, x94, x154000, x154001 => if x94 = true then (some false) else (if x154000 = 4 then (if (wrap64 (x4 + 1)) = (x0.length : Int) then (clewref15_Right.j4 k x0 x3 x4 true x154000 x154001) else (if 0 ≤ (wrap64 (x4 + 1)) then (if (wrap64 (x4 + 1)) < (x0.length : Int) then (if ((rd_T52 x0 (wrap64 (x4 + 1))).f0) = 2 then (clewref15_Right.j4 k x0 x3 x4 false x154000 x154001) else (clewref15_Right.j4 k x0 x3 x4 (((rd_T52 x0 (wrap64 (x4 + 1))).f0) != 3) x154000 x154001)) else (none)) else (none))) else (clewref15_Right.j4 k x0 x3 x4 false x154000 x154001))
def clewref15_Right.j4 : Nat → List (S52) → Int → Int → Bool → Int → Int → Option (Bool)
  | 0, _, _, _, _, _, _ => none
  | k + 1, x0, x3, x4, x122, x154000, x154001 => if x122 = true then (some false) else (if x154000 = 4 then (clewref15_Right.l0 k x0 (wrap64 (x3 + 1)) (wrap64 (x4 + 1))) else (clewref15_Right.l0 k x0 x3 (wrap64 (x4 + 1))))
end
def clewref15_Right.f (k : Nat) (l0 : List (S52)) : Option (Bool) := if (l0.length : Int) > 1048576 then (some false) else (clewref15_Right.l0 k l0 0 0)
theorem clewref15_Right.mono_l : ∀ k, (∀ y0 y1 y2, LeO (clewref15_Right.l0 k y0 y1 y2) (clewref15_Right.l0 (k + 1) y0 y1 y2)) ∧ (∀ y0 y1 y2 y3 y4 y5, LeO (clewref15_Right.j1 k y0 y1 y2 y3 y4 y5) (clewref15_Right.j1 (k + 1) y0 y1 y2 y3 y4 y5)) ∧ (∀ y0 y1 y2 y3 y4 y5, LeO (clewref15_Right.j2 k y0 y1 y2 y3 y4 y5) (clewref15_Right.j2 (k + 1) y0 y1 y2 y3 y4 y5)) ∧ (∀ y0 y1 y2 y3 y4 y5, LeO (clewref15_Right.j3 k y0 y1 y2 y3 y4 y5) (clewref15_Right.j3 (k + 1) y0 y1 y2 y3 y4 y5)) ∧ (∀ y0 y1 y2 y3 y4 y5, LeO (clewref15_Right.j4 k y0 y1 y2 y3 y4 y5) (clewref15_Right.j4 (k + 1) y0 y1 y2 y3 y4 y5))
  | 0 => ⟨fun _ _ _ r h => by simp [clewref15_Right.l0] at h, fun _ _ _ _ _ _ r h => by simp [clewref15_Right.j1] at h, fun _ _ _ _ _ _ r h => by simp [clewref15_Right.j2] at h, fun _ _ _ _ _ _ r h => by simp [clewref15_Right.j3] at h, fun _ _ _ _ _ _ r h => by simp [clewref15_Right.j4] at h⟩
  | k + 1 => by
    obtain ⟨ih0, ih1, ih2, ih3, ih4⟩ := clewref15_Right.mono_l k
    refine ⟨?_, ?_, ?_, ?_, ?_⟩
    · intro y0 y1 y2
      unfold clewref15_Right.l0
      repeat' first
      | (with_reducible exact ih0 _ _ _)
      | (with_reducible exact ih1 _ _ _ _ _ _)
      | (with_reducible exact ih2 _ _ _ _ _ _)
      | (with_reducible exact ih3 _ _ _ _ _ _)
      | (with_reducible exact ih4 _ _ _ _ _ _)
      | (with_reducible exact LeO.refl _)
      | (with_reducible exact LeO.none _)
      | (with_reducible refine LeO.ite ?_ ?_)
      | (with_reducible refine LeO.bind ?_ (fun _ => ?_))
      | exact ih0 _ _ _
      | exact ih1 _ _ _ _ _ _
      | exact ih2 _ _ _ _ _ _
      | exact ih3 _ _ _ _ _ _
      | exact ih4 _ _ _ _ _ _
      | exact LeO.none _
      | refine LeO.ite ?_ ?_
      | refine LeO.bind ?_ (fun _ => ?_)
    · intro y0 y1 y2 y3 y4 y5
      unfold clewref15_Right.j1
      repeat' first
      | (with_reducible exact ih0 _ _ _)
      | (with_reducible exact ih1 _ _ _ _ _ _)
      | (with_reducible exact ih2 _ _ _ _ _ _)
      | (with_reducible exact ih3 _ _ _ _ _ _)
      | (with_reducible exact ih4 _ _ _ _ _ _)
      | (with_reducible exact LeO.refl _)
      | (with_reducible exact LeO.none _)
      | (with_reducible refine LeO.ite ?_ ?_)
      | (with_reducible refine LeO.bind ?_ (fun _ => ?_))
      | exact ih0 _ _ _
      | exact ih1 _ _ _ _ _ _
      | exact ih2 _ _ _ _ _ _
      | exact ih3 _ _ _ _ _ _
      | exact ih4 _ _ _ _ _ _
      | exact LeO.none _
      | refine LeO.ite ?_ ?_
      | refine LeO.bind ?_ (fun _ => ?_)
    · intro y0 y1 y2 y3 y4 y5
      unfold clewref15_Right.j2
      repeat' first
      | (with_reducible exact ih0 _ _ _)
      | (with_reducible exact ih1 _ _ _ _ _ _)
      | (with_reducible exact ih2 _ _ _ _ _ _)
      | (with_reducible exact ih3 _ _ _ _ _ _)
      | (with_reducible exact ih4 _ _ _ _ _ _)
      | (with_reducible exact LeO.refl _)
      | (with_reducible exact LeO.none _)
      | (with_reducible refine LeO.ite ?_ ?_)
      | (with_reducible refine LeO.bind ?_ (fun _ => ?_))
      | exact ih0 _ _ _
      | exact ih1 _ _ _ _ _ _
      | exact ih2 _ _ _ _ _ _
      | exact ih3 _ _ _ _ _ _
      | exact ih4 _ _ _ _ _ _
      | exact LeO.none _
      | refine LeO.ite ?_ ?_
      | refine LeO.bind ?_ (fun _ => ?_)
    · intro y0 y1 y2 y3 y4 y5
      unfold clewref15_Right.j3
      repeat' first
      | (with_reducible exact ih0 _ _ _)
      | (with_reducible exact ih1 _ _ _ _ _ _)
      | (with_reducible exact ih2 _ _ _ _ _ _)
      | (with_reducible exact ih3 _ _ _ _ _ _)
      | (with_reducible exact ih4 _ _ _ _ _ _)
      | (with_reducible exact LeO.refl _)
      | (with_reducible exact LeO.none _)
      | (with_reducible refine LeO.ite ?_ ?_)
      | (with_reducible refine LeO.bind ?_ (fun _ => ?_))
      | exact ih0 _ _ _
      | exact ih1 _ _ _ _ _ _
      | exact ih2 _ _ _ _ _ _
      | exact ih3 _ _ _ _ _ _
      | exact ih4 _ _ _ _ _ _
      | exact LeO.none _
      | refine LeO.ite ?_ ?_
      | refine LeO.bind ?_ (fun _ => ?_)
    · intro y0 y1 y2 y3 y4 y5
      unfold clewref15_Right.j4
      repeat' first
      | (with_reducible exact ih0 _ _ _)
      | (with_reducible exact ih1 _ _ _ _ _ _)
      | (with_reducible exact ih2 _ _ _ _ _ _)
      | (with_reducible exact ih3 _ _ _ _ _ _)
      | (with_reducible exact ih4 _ _ _ _ _ _)
      | (with_reducible exact LeO.refl _)
      | (with_reducible exact LeO.none _)
      | (with_reducible refine LeO.ite ?_ ?_)
      | (with_reducible refine LeO.bind ?_ (fun _ => ?_))
      | exact ih0 _ _ _
      | exact ih1 _ _ _ _ _ _
      | exact ih2 _ _ _ _ _ _
      | exact ih3 _ _ _ _ _ _
      | exact ih4 _ _ _ _ _ _
      | exact LeO.none _
      | refine LeO.ite ?_ ?_
      | refine LeO.bind ?_ (fun _ => ?_)
theorem clewref15_Right.mono : ∀ a0 k, LeO (clewref15_Right.f k a0) (clewref15_Right.f (k + 1) a0) := by
  intro a0 k
  obtain ⟨ih0, ih1, ih2, ih3, ih4⟩ := clewref15_Right.mono_l k
  unfold clewref15_Right.f
  repeat' first
      | (with_reducible exact ih0 _ _ _)
      | (with_reducible exact ih1 _ _ _ _ _ _)
      | (with_reducible exact ih2 _ _ _ _ _ _)
      | (with_reducible exact ih3 _ _ _ _ _ _)
      | (with_reducible exact ih4 _ _ _ _ _ _)
      | (with_reducible exact LeO.refl _)
      | (with_reducible exact LeO.none _)
      | (with_reducible refine LeO.ite ?_ ?_)
      | (with_reducible refine LeO.bind ?_ (fun _ => ?_))
      | exact ih0 _ _ _
      | exact ih1 _ _ _ _ _ _
      | exact ih2 _ _ _ _ _ _
      | exact ih3 _ _ _ _ _ _
      | exact ih4 _ _ _ _ _ _
      | exact LeO.none _
      | refine LeO.ite ?_ ?_
      | refine LeO.bind ?_ (fun _ => ?_)
set_option maxHeartbeats 8000000 in
set_option maxRecDepth 100000 in
theorem clewref15_Right.calls (k : Nat) (A0 : Option Addr) (c0 : Nat) (l0 : List (S52)) (r : Bool) (w : World) (hr0 : Kd.C k52 w A0 l0.length l0) (hc0 : l0.length ≤ c0) (h : clewref15_Right.f k l0 = some r) :
    Calls Tryd.prog 24 #[.slice A0 l0.length c0] w fun e w' => e = .returned (.bool r) ∧ Below w.heap.size w w' := by
  have hu52 := Tryd.underlying52
  have HR0 := Aside0.mk hr0
  have HC0 := Aside0.mk hc0
  clear hr0 hc0
  have HB := Aside0.mk (Below.refl w.heap.size w)
  have H : (if (l0.length : Int) > 1048576 then (some false) else (clewref15_Right.l0 k l0 0 0)) = some r := h
  clear h
  by_cases c2 : (l0.length : Int) > 1048576
  · rw [if_pos c2] at H
    have c2b0 : decide (1048576 < (l0.length : Int)) = true := decide_eq_true c2
    have c2b1 : decide (1048576 < l0.length) = true := decide_eq_true (by omega)
    clear c2
    obtain rfl := Option.some.inj H
    go_enter Tryd.func24, Tryd.ntmps24
    go_wp2
    go_ret
    exact ⟨by first | rfl | (simp [errW_none, errW_some] <;> rfl) | (simp [*, errW_none, errW_some] <;> rfl), by repeat (first | (with_reducible first | exact HB.out | apply below_alloc | apply pw_below_drewN | apply below_drew1) | exact HB.out)⟩
  · rw [if_neg c2] at H
    have c2b0 : decide (1048576 < (l0.length : Int)) = false := decide_eq_false c2
    have c2b1 : decide (1048576 < l0.length) = false := decide_eq_false (by omega)
    clear c2
    have H' := Aside0.mk H
    clear H
    go_enter Tryd.func24, Tryd.ntmps24
    go_wp2
    go_loopg [3, 4] k (fun kq v3 v4 w' => ∃ (x3_1 : Int) (x4_1 : Int), v3 = .int .i64 x3_1 ∧ v4 = .int .i64 x4_1 ∧ Aside0 (clewref15_Right.l0 kq l0 x3_1 x4_1 = some r) ∧ Aside0 (kq ≤ k) ∧ Aside0 (Below w.heap.size w w'))
    case atStart => exact ⟨(0), (0), (by first | rfl | (simp; done) | (simp [*]; done)), (by first | rfl | (simp; done) | (simp [*]; done)), H', ⟨Nat.le_refl _⟩, ⟨by repeat (first | (with_reducible first | exact HB.out | apply below_alloc | apply pw_below_drewN | apply below_drew1) | exact HB.out)⟩⟩
    case round =>
      clear H'
      try clear c2
      try clear c2b0
      try clear c2b1
      try clear p2
      obtain ⟨x3_1, x4_1, rfl, rfl, HA, HK1, HB⟩ := hrel
      cases gk with
      | zero => exact absurd HA.out (by simp [clewref15_Right.l0])
      | succ k1 =>
        have H := HA.out
        clear HA
        simp only [clewref15_Right.l0] at H
        by_cases c3 : x4_1 < (l0.length : Int)
        · rw [if_pos c3] at H
          have c3b0 : decide (x4_1 < (l0.length : Int)) = true := decide_eq_true c3
          clear c3
          obtain ⟨c4, H⟩ := ite_yes_ H
          have c4b0 : decide (0 ≤ x4_1) = true := decide_eq_true c4
          clear c4
          have HC5 := Aside0.mk H
          clear H
          have p152 : 0 ≤ (x4_1 : Int) := of_decide_eq_true (by first | (with_reducible assumption) | assumption)
          have q152 : x4_1 < (l0.length : Int) := of_decide_eq_true (by first | (with_reducible assumption) | assumption)
          obtain ⟨ad152, e152, hx152_0, hx152_1⟩ := at_T52 HR0.out x4_1 p152 q152
          cases e152
          replace hx152_0 := (HB.out.cell (World.block_lt_of_cell? w _ hx152_0)).trans hx152_0
          replace hx152_1 := (HB.out.cell (World.block_lt_of_cell? w _ hx152_1)).trans hx152_1
          replace p152 := eq_true p152
          replace q152 := eq_true q152
          go_upto_region 8 with (first | ((with_reducible refine gate_dst (N := 5) rfl ?_); (try (refine gate_guard (by rfl) ?_; dsimp only)); refine box_event ?hg (N := 5) ?hd (cs := #[.int .i64 0, .int .i64 0]) (t := 52) ?hr ?_; (case hd => rfl); (case hg => rfl); (case hr => first | (go_simp; done) | (go_simp; rfl)); intro gb153 hg w6 hbox hb; have n0_ := Aside0.mk (below_step (by repeat (first | (with_reducible first | exact HB.out | apply below_alloc | apply pw_below_drewN | apply below_drew1) | exact HB.out)) hb); have n1_ := Aside0.mk (hbox); have n2_ := Aside0.mk ((by rw [hg]; exact (below_size (by repeat (first | (with_reducible first | exact HB.out | apply below_alloc | apply pw_below_drewN | apply below_drew1) | exact HB.out))) : w.heap.size ≤ gb153)); have n3_ := Aside0.mk ((by rw [hg]; exact (below_size (by repeat (first | (with_reducible first | exact HB.out | apply below_alloc | apply pw_below_drewN | apply below_drew1) | exact HB.out))) : w.heap.size ≤ gb153)); clear HB; have HB := n0_; have BK153 := n1_; have GW153 := n2_; have GE153 := n3_; clear n0_ n1_ n2_ n3_; clear hb hbox hg; have hcz7_0 : w6.cell? ⟨gb153, 0, none⟩ = some (.int .i64 0) := (blk_cell BK153.out 0).trans rfl; have hcz7_1 : w6.cell? ⟨gb153, 1, none⟩ = some (.int .i64 0) := (blk_cell BK153.out 1).trans rfl; have hfz7_0 := blk_frozen BK153.out 0; have hfz7_1 := blk_frozen BK153.out 1))
          (try simp only [Act.put, List.setIfInBounds_toArray, List.set_cons_zero, List.set_cons_succ])
          go_cut [68] (fun v68 wc => ∃ (kq : Nat) (x68_4 : Bool), v68 = .bool x68_4 ∧ Aside0 (clewref15_Right.j1 kq l0 x3_1 x4_1 x68_4 ((rd_T52 l0 x4_1).f0) ((rd_T52 l0 x4_1).f1) = some r) ∧ Aside0 (kq ≤ k1) ∧ Aside0 (wc.heap[gb153]? = some (.cells #[.int .i64 ((rd_T52 l0 x4_1).f0), .int .i64 ((rd_T52 l0 x4_1).f1)] 52 (0, 0))) ∧ Aside0 (Below w.heap.size w wc))
          case first =>
            have H := HC5.out
            clear HC5
            by_cases c8 : ((rd_T52 l0 x4_1).f0) < 0
            · rw [if_pos c8] at H
              have c8b0 : decide (((rd_T52 l0 x4_1).f0) < 0) = true := decide_eq_true c8
              clear c8
              (first | rw [c8b0] | rw [c8b3] | rw [c8b2] | (simp only [i64_w, i32_w]; rw [c8b0]) | skip)
              have H' := Aside0.mk H
              clear H
              have hcz9_0 : w6.cell? ⟨gb153, 0, none⟩ = some (.int .i64 0) := (blk_cell BK153.out 0).trans rfl
              have hcz9_1 : w6.cell? ⟨gb153, 1, none⟩ = some (.int .i64 0) := (blk_cell BK153.out 1).trans rfl
              have hfz9_0 := blk_frozen BK153.out 0
              have hfz9_1 := blk_frozen BK153.out 1
              go_wp2
              go_meet
              case rel => exact ⟨_, (true), (by first | rfl | (simp; done) | (simp [*]; done)), H', ⟨by have := HK1.out; first | omega | exact Nat.le_refl _⟩, ⟨by (with_reducible repeat (first | refine blk_drewN ?_ _ | refine blk_drew ?_ | refine blk_alloc ?_ _)); refine blk_put (cs := #[.int .i64 ((rd_T52 l0 x4_1).f0), .int .i64 0]) ?_ 1 _ rfl; (with_reducible repeat (first | refine blk_drewN ?_ _ | refine blk_drew ?_ | refine blk_alloc ?_ _)); refine blk_put (cs := #[.int .i64 0, .int .i64 0]) ?_ 0 _ rfl; (with_reducible repeat (first | refine blk_drewN ?_ _ | refine blk_drew ?_ | refine blk_alloc ?_ _)); exact BK153.out⟩, ⟨by repeat (first | (with_reducible first | exact HB.out | apply below_alloc | apply pw_below_drewN | apply below_drew1 | refine below_set ?_ GE153.out) | exact HB.out)⟩⟩
            · rw [if_neg c8] at H
              have c8b0 : decide (((rd_T52 l0 x4_1).f0) < 0) = false := decide_eq_false c8
              clear c8
              (first | rw [c8b0] | rw [c8b3] | rw [c8b2] | (simp only [i64_w, i32_w]; rw [c8b0]) | skip)
              by_cases c10 : ((rd_T52 l0 x4_1).f0) > 5
              · rw [if_pos c10] at H
                have c10b0 : decide (5 < ((rd_T52 l0 x4_1).f0)) = true := decide_eq_true c10
                clear c10
                have H' := Aside0.mk H
                clear H
                have hcz11_0 : w6.cell? ⟨gb153, 0, none⟩ = some (.int .i64 0) := (blk_cell BK153.out 0).trans rfl
                have hcz11_1 : w6.cell? ⟨gb153, 1, none⟩ = some (.int .i64 0) := (blk_cell BK153.out 1).trans rfl
                have hfz11_0 := blk_frozen BK153.out 0
                have hfz11_1 := blk_frozen BK153.out 1
                go_wp2
                go_meet
                case rel => exact ⟨_, (true), (by first | rfl | (simp; done) | (simp [*]; done)), H', ⟨by have := HK1.out; first | omega | exact Nat.le_refl _⟩, ⟨by (with_reducible repeat (first | refine blk_drewN ?_ _ | refine blk_drew ?_ | refine blk_alloc ?_ _)); refine blk_put (cs := #[.int .i64 ((rd_T52 l0 x4_1).f0), .int .i64 0]) ?_ 1 _ rfl; (with_reducible repeat (first | refine blk_drewN ?_ _ | refine blk_drew ?_ | refine blk_alloc ?_ _)); refine blk_put (cs := #[.int .i64 0, .int .i64 0]) ?_ 0 _ rfl; (with_reducible repeat (first | refine blk_drewN ?_ _ | refine blk_drew ?_ | refine blk_alloc ?_ _)); exact BK153.out⟩, ⟨by repeat (first | (with_reducible first | exact HB.out | apply below_alloc | apply pw_below_drewN | apply below_drew1 | refine below_set ?_ GE153.out) | exact HB.out)⟩⟩
              · rw [if_neg c10] at H
                have c10b0 : decide (5 < ((rd_T52 l0 x4_1).f0)) = false := decide_eq_false c10
                clear c10
                by_cases c12 : ((rd_T52 l0 x4_1).f0) = 0
                · rw [if_pos c12] at H
                  have c12b0 : (((rd_T52 l0 x4_1).f0) == 0) = true := beq_iff_eq.mpr c12
                  have c12b1 : (((rd_T52 l0 x4_1).f0) != 0) = false := bne_eq_false_iff_eq.mpr c12
                  clear c12
                  replace H := Option.bind_eq_some_iff.mp H
                  obtain ⟨t154, A130, H⟩ := H
                  replace H : (if t154 = true then (if ((rd_T52 l0 x4_1).f0) = 5 then (if ((rd_T52 l0 x4_1).f1) < 0 then (clewref15_Right.j1 k1 l0 x3_1 x4_1 true ((rd_T52 l0 x4_1).f0) ((rd_T52 l0 x4_1).f1)) else (if ((rd_T52 l0 x4_1).f1) ≥ x3_1 then (clewref15_Right.j1 k1 l0 x3_1 x4_1 true ((rd_T52 l0 x4_1).f0) ((rd_T52 l0 x4_1).f1)) else (if ((rd_T52 l0 x4_1).f0) > 0 then (if ((rd_T52 l0 x4_1).f0) < 5 then (clewref15_Right.j1 k1 l0 x3_1 x4_1 (((rd_T52 l0 x4_1).f1) != 0) ((rd_T52 l0 x4_1).f0) ((rd_T52 l0 x4_1).f1)) else (clewref15_Right.j1 k1 l0 x3_1 x4_1 false ((rd_T52 l0 x4_1).f0) ((rd_T52 l0 x4_1).f1))) else (clewref15_Right.j1 k1 l0 x3_1 x4_1 false ((rd_T52 l0 x4_1).f0) ((rd_T52 l0 x4_1).f1))))) else (if ((rd_T52 l0 x4_1).f0) > 0 then (if ((rd_T52 l0 x4_1).f0) < 5 then (clewref15_Right.j1 k1 l0 x3_1 x4_1 (((rd_T52 l0 x4_1).f1) != 0) ((rd_T52 l0 x4_1).f0) ((rd_T52 l0 x4_1).f1)) else (clewref15_Right.j1 k1 l0 x3_1 x4_1 false ((rd_T52 l0 x4_1).f0) ((rd_T52 l0 x4_1).f1))) else (clewref15_Right.j1 k1 l0 x3_1 x4_1 false ((rd_T52 l0 x4_1).f0) ((rd_T52 l0 x4_1).f1)))) else (clewref15_Right.j1 k1 l0 x3_1 x4_1 true ((rd_T52 l0 x4_1).f0) ((rd_T52 l0 x4_1).f1))) = some r := H
                  have A13 := Aside0.mk A130
                  clear A130
                  by_cases c14 : t154 = true
                  · subst c14
                    have H1 : (if ((rd_T52 l0 x4_1).f0) = 5 then (if ((rd_T52 l0 x4_1).f1) < 0 then (clewref15_Right.j1 k1 l0 x3_1 x4_1 true ((rd_T52 l0 x4_1).f0) ((rd_T52 l0 x4_1).f1)) else (if ((rd_T52 l0 x4_1).f1) ≥ x3_1 then (clewref15_Right.j1 k1 l0 x3_1 x4_1 true ((rd_T52 l0 x4_1).f0) ((rd_T52 l0 x4_1).f1)) else (if ((rd_T52 l0 x4_1).f0) > 0 then (if ((rd_T52 l0 x4_1).f0) < 5 then (clewref15_Right.j1 k1 l0 x3_1 x4_1 (((rd_T52 l0 x4_1).f1) != 0) ((rd_T52 l0 x4_1).f0) ((rd_T52 l0 x4_1).f1)) else (clewref15_Right.j1 k1 l0 x3_1 x4_1 false ((rd_T52 l0 x4_1).f0) ((rd_T52 l0 x4_1).f1))) else (clewref15_Right.j1 k1 l0 x3_1 x4_1 false ((rd_T52 l0 x4_1).f0) ((rd_T52 l0 x4_1).f1))))) else (if ((rd_T52 l0 x4_1).f0) > 0 then (if ((rd_T52 l0 x4_1).f0) < 5 then (clewref15_Right.j1 k1 l0 x3_1 x4_1 (((rd_T52 l0 x4_1).f1) != 0) ((rd_T52 l0 x4_1).f0) ((rd_T52 l0 x4_1).f1)) else (clewref15_Right.j1 k1 l0 x3_1 x4_1 false ((rd_T52 l0 x4_1).f0) ((rd_T52 l0 x4_1).f1))) else (clewref15_Right.j1 k1 l0 x3_1 x4_1 false ((rd_T52 l0 x4_1).f0) ((rd_T52 l0 x4_1).f1)))) = some r := by rw [if_pos rfl] at H; exact H
                    clear H
                    have H := H1
                    clear H1
                    by_cases c15 : ((rd_T52 l0 x4_1).f0) = 5
                    · rw [if_pos c15] at H
                      have c15b0 : (((rd_T52 l0 x4_1).f0) == 5) = true := beq_iff_eq.mpr c15
                      have c15b1 : (((rd_T52 l0 x4_1).f0) != 5) = false := bne_eq_false_iff_eq.mpr c15
                      clear c15
                      by_cases c16 : ((rd_T52 l0 x4_1).f1) < 0
                      · rw [if_pos c16] at H
                        have c16b0 : decide (((rd_T52 l0 x4_1).f1) < 0) = true := decide_eq_true c16
                        clear c16
                        have H' := Aside0.mk H
                        clear H
                        have hcz17_0 : w6.cell? ⟨gb153, 0, none⟩ = some (.int .i64 0) := (blk_cell BK153.out 0).trans rfl
                        have hcz17_1 : w6.cell? ⟨gb153, 1, none⟩ = some (.int .i64 0) := (blk_cell BK153.out 1).trans rfl
                        have hfz17_0 := blk_frozen BK153.out 0
                        have hfz17_1 := blk_frozen BK153.out 1
                        go_wp2_with (first | (go_at_call 35; (with_reducible refine (clewref15_skips.calls ((rd_T52 l0 x4_1).f1) true _ A13.out).mono ?_); rintro e w' ⟨rfl, ⟨nd, rfl⟩⟩))
                        go_meet
                        case rel => exact ⟨_, (true), (by first | rfl | (simp; done) | (simp [*]; done)), H', ⟨by have := HK1.out; first | omega | exact Nat.le_refl _⟩, ⟨by (with_reducible repeat (first | refine blk_drewN ?_ _ | refine blk_drew ?_ | refine blk_alloc ?_ _)); refine blk_put (cs := #[.int .i64 ((rd_T52 l0 x4_1).f0), .int .i64 0]) ?_ 1 _ rfl; (with_reducible repeat (first | refine blk_drewN ?_ _ | refine blk_drew ?_ | refine blk_alloc ?_ _)); refine blk_put (cs := #[.int .i64 0, .int .i64 0]) ?_ 0 _ rfl; (with_reducible repeat (first | refine blk_drewN ?_ _ | refine blk_drew ?_ | refine blk_alloc ?_ _)); exact BK153.out⟩, ⟨by repeat (first | (with_reducible first | exact HB.out | apply below_alloc | apply pw_below_drewN | apply below_drew1 | refine below_set ?_ GE153.out) | exact HB.out)⟩⟩
                      · rw [if_neg c16] at H
                        have c16b0 : decide (((rd_T52 l0 x4_1).f1) < 0) = false := decide_eq_false c16
                        clear c16
                        by_cases c18 : ((rd_T52 l0 x4_1).f1) ≥ x3_1
                        · rw [if_pos c18] at H
                          have c18b0 : decide (x3_1 ≤ ((rd_T52 l0 x4_1).f1)) = true := decide_eq_true c18
                          clear c18
                          have H' := Aside0.mk H
                          clear H
                          have hcz19_0 : w6.cell? ⟨gb153, 0, none⟩ = some (.int .i64 0) := (blk_cell BK153.out 0).trans rfl
                          have hcz19_1 : w6.cell? ⟨gb153, 1, none⟩ = some (.int .i64 0) := (blk_cell BK153.out 1).trans rfl
                          have hfz19_0 := blk_frozen BK153.out 0
                          have hfz19_1 := blk_frozen BK153.out 1
                          go_wp2_with (first | (go_at_call 35; (with_reducible refine (clewref15_skips.calls ((rd_T52 l0 x4_1).f1) true _ A13.out).mono ?_); rintro e w' ⟨rfl, ⟨nd, rfl⟩⟩))
                          go_meet
                          case rel => exact ⟨_, (true), (by first | rfl | (simp; done) | (simp [*]; done)), H', ⟨by have := HK1.out; first | omega | exact Nat.le_refl _⟩, ⟨by (with_reducible repeat (first | refine blk_drewN ?_ _ | refine blk_drew ?_ | refine blk_alloc ?_ _)); refine blk_put (cs := #[.int .i64 ((rd_T52 l0 x4_1).f0), .int .i64 0]) ?_ 1 _ rfl; (with_reducible repeat (first | refine blk_drewN ?_ _ | refine blk_drew ?_ | refine blk_alloc ?_ _)); refine blk_put (cs := #[.int .i64 0, .int .i64 0]) ?_ 0 _ rfl; (with_reducible repeat (first | refine blk_drewN ?_ _ | refine blk_drew ?_ | refine blk_alloc ?_ _)); exact BK153.out⟩, ⟨by repeat (first | (with_reducible first | exact HB.out | apply below_alloc | apply pw_below_drewN | apply below_drew1 | refine below_set ?_ GE153.out) | exact HB.out)⟩⟩
                        · rw [if_neg c18] at H
                          have c18b0 : decide (x3_1 ≤ ((rd_T52 l0 x4_1).f1)) = false := decide_eq_false c18
                          clear c18
                          by_cases c20 : ((rd_T52 l0 x4_1).f0) > 0
                          · rw [if_pos c20] at H
                            have c20b0 : decide (0 < ((rd_T52 l0 x4_1).f0)) = true := decide_eq_true c20
                            clear c20
                            by_cases c21 : ((rd_T52 l0 x4_1).f0) < 5
                            · rw [if_pos c21] at H
                              have c21b0 : decide (((rd_T52 l0 x4_1).f0) < 5) = true := decide_eq_true c21
                              clear c21
                              have H' := Aside0.mk H
                              clear H
                              have hcz22_0 : w6.cell? ⟨gb153, 0, none⟩ = some (.int .i64 0) := (blk_cell BK153.out 0).trans rfl
                              have hcz22_1 : w6.cell? ⟨gb153, 1, none⟩ = some (.int .i64 0) := (blk_cell BK153.out 1).trans rfl
                              have hfz22_0 := blk_frozen BK153.out 0
                              have hfz22_1 := blk_frozen BK153.out 1
                              go_wp2_with (first | (go_at_call 35; (with_reducible refine (clewref15_skips.calls ((rd_T52 l0 x4_1).f1) true _ A13.out).mono ?_); rintro e w' ⟨rfl, ⟨nd, rfl⟩⟩))
                              go_meet
                              case rel => exact ⟨_, ((((rd_T52 l0 x4_1).f1) != 0)), (by first | rfl | (simp; done) | (simp [*]; done)), H', ⟨by have := HK1.out; first | omega | exact Nat.le_refl _⟩, ⟨by (with_reducible repeat (first | refine blk_drewN ?_ _ | refine blk_drew ?_ | refine blk_alloc ?_ _)); refine blk_put (cs := #[.int .i64 ((rd_T52 l0 x4_1).f0), .int .i64 0]) ?_ 1 _ rfl; (with_reducible repeat (first | refine blk_drewN ?_ _ | refine blk_drew ?_ | refine blk_alloc ?_ _)); refine blk_put (cs := #[.int .i64 0, .int .i64 0]) ?_ 0 _ rfl; (with_reducible repeat (first | refine blk_drewN ?_ _ | refine blk_drew ?_ | refine blk_alloc ?_ _)); exact BK153.out⟩, ⟨by repeat (first | (with_reducible first | exact HB.out | apply below_alloc | apply pw_below_drewN | apply below_drew1 | refine below_set ?_ GE153.out) | exact HB.out)⟩⟩
                            · rw [if_neg c21] at H
                              have c21b0 : decide (((rd_T52 l0 x4_1).f0) < 5) = false := decide_eq_false c21
                              clear c21
                              have H' := Aside0.mk H
                              clear H
                              have hcz23_0 : w6.cell? ⟨gb153, 0, none⟩ = some (.int .i64 0) := (blk_cell BK153.out 0).trans rfl
                              have hcz23_1 : w6.cell? ⟨gb153, 1, none⟩ = some (.int .i64 0) := (blk_cell BK153.out 1).trans rfl
                              have hfz23_0 := blk_frozen BK153.out 0
                              have hfz23_1 := blk_frozen BK153.out 1
                              go_wp2_with (first | (go_at_call 35; (with_reducible refine (clewref15_skips.calls ((rd_T52 l0 x4_1).f1) true _ A13.out).mono ?_); rintro e w' ⟨rfl, ⟨nd, rfl⟩⟩))
                              go_meet
                              case rel => exact ⟨_, (false), (by first | rfl | (simp; done) | (simp [*]; done)), H', ⟨by have := HK1.out; first | omega | exact Nat.le_refl _⟩, ⟨by (with_reducible repeat (first | refine blk_drewN ?_ _ | refine blk_drew ?_ | refine blk_alloc ?_ _)); refine blk_put (cs := #[.int .i64 ((rd_T52 l0 x4_1).f0), .int .i64 0]) ?_ 1 _ rfl; (with_reducible repeat (first | refine blk_drewN ?_ _ | refine blk_drew ?_ | refine blk_alloc ?_ _)); refine blk_put (cs := #[.int .i64 0, .int .i64 0]) ?_ 0 _ rfl; (with_reducible repeat (first | refine blk_drewN ?_ _ | refine blk_drew ?_ | refine blk_alloc ?_ _)); exact BK153.out⟩, ⟨by repeat (first | (with_reducible first | exact HB.out | apply below_alloc | apply pw_below_drewN | apply below_drew1 | refine below_set ?_ GE153.out) | exact HB.out)⟩⟩
                          · rw [if_neg c20] at H
                            have c20b0 : decide (0 < ((rd_T52 l0 x4_1).f0)) = false := decide_eq_false c20
                            clear c20
                            have H' := Aside0.mk H
                            clear H
                            have hcz24_0 : w6.cell? ⟨gb153, 0, none⟩ = some (.int .i64 0) := (blk_cell BK153.out 0).trans rfl
                            have hcz24_1 : w6.cell? ⟨gb153, 1, none⟩ = some (.int .i64 0) := (blk_cell BK153.out 1).trans rfl
                            have hfz24_0 := blk_frozen BK153.out 0
                            have hfz24_1 := blk_frozen BK153.out 1
                            go_wp2_with (first | (go_at_call 35; (with_reducible refine (clewref15_skips.calls ((rd_T52 l0 x4_1).f1) true _ A13.out).mono ?_); rintro e w' ⟨rfl, ⟨nd, rfl⟩⟩))
                            go_meet
                            case rel => exact ⟨_, (false), (by first | rfl | (simp; done) | (simp [*]; done)), H', ⟨by have := HK1.out; first | omega | exact Nat.le_refl _⟩, ⟨by (with_reducible repeat (first | refine blk_drewN ?_ _ | refine blk_drew ?_ | refine blk_alloc ?_ _)); refine blk_put (cs := #[.int .i64 ((rd_T52 l0 x4_1).f0), .int .i64 0]) ?_ 1 _ rfl; (with_reducible repeat (first | refine blk_drewN ?_ _ | refine blk_drew ?_ | refine blk_alloc ?_ _)); refine blk_put (cs := #[.int .i64 0, .int .i64 0]) ?_ 0 _ rfl; (with_reducible repeat (first | refine blk_drewN ?_ _ | refine blk_drew ?_ | refine blk_alloc ?_ _)); exact BK153.out⟩, ⟨by repeat (first | (with_reducible first | exact HB.out | apply below_alloc | apply pw_below_drewN | apply below_drew1 | refine below_set ?_ GE153.out) | exact HB.out)⟩⟩
                    · rw [if_neg c15] at H
                      have c15b0 : (((rd_T52 l0 x4_1).f0) == 5) = false := beq_eq_false_iff_ne.mpr c15
                      have c15b1 : (((rd_T52 l0 x4_1).f0) != 5) = true := bne_iff_ne.mpr c15
                      by_cases c25 : ((rd_T52 l0 x4_1).f0) > 0
                      · rw [if_pos c25] at H
                        have c25b0 : decide (0 < ((rd_T52 l0 x4_1).f0)) = true := decide_eq_true c25
                        clear c25
                        by_cases c26 : ((rd_T52 l0 x4_1).f0) < 5
                        · rw [if_pos c26] at H
                          have c26b0 : decide (((rd_T52 l0 x4_1).f0) < 5) = true := decide_eq_true c26
                          clear c26
                          have H' := Aside0.mk H
                          clear H
                          have hcz27_0 : w6.cell? ⟨gb153, 0, none⟩ = some (.int .i64 0) := (blk_cell BK153.out 0).trans rfl
                          have hcz27_1 : w6.cell? ⟨gb153, 1, none⟩ = some (.int .i64 0) := (blk_cell BK153.out 1).trans rfl
                          have hfz27_0 := blk_frozen BK153.out 0
                          have hfz27_1 := blk_frozen BK153.out 1
                          go_wp2_with (first | (go_at_call 35; (with_reducible refine (clewref15_skips.calls ((rd_T52 l0 x4_1).f1) true _ A13.out).mono ?_); rintro e w' ⟨rfl, ⟨nd, rfl⟩⟩))
                          go_meet
                          case rel => exact ⟨_, ((((rd_T52 l0 x4_1).f1) != 0)), (by first | rfl | (simp; done) | (simp [*]; done)), H', ⟨by have := HK1.out; first | omega | exact Nat.le_refl _⟩, ⟨by (with_reducible repeat (first | refine blk_drewN ?_ _ | refine blk_drew ?_ | refine blk_alloc ?_ _)); refine blk_put (cs := #[.int .i64 ((rd_T52 l0 x4_1).f0), .int .i64 0]) ?_ 1 _ rfl; (with_reducible repeat (first | refine blk_drewN ?_ _ | refine blk_drew ?_ | refine blk_alloc ?_ _)); refine blk_put (cs := #[.int .i64 0, .int .i64 0]) ?_ 0 _ rfl; (with_reducible repeat (first | refine blk_drewN ?_ _ | refine blk_drew ?_ | refine blk_alloc ?_ _)); exact BK153.out⟩, ⟨by repeat (first | (with_reducible first | exact HB.out | apply below_alloc | apply pw_below_drewN | apply below_drew1 | refine below_set ?_ GE153.out) | exact HB.out)⟩⟩
                        · rw [if_neg c26] at H
                          have c26b0 : decide (((rd_T52 l0 x4_1).f0) < 5) = false := decide_eq_false c26
                          clear c26
                          have H' := Aside0.mk H
                          clear H
                          have hcz28_0 : w6.cell? ⟨gb153, 0, none⟩ = some (.int .i64 0) := (blk_cell BK153.out 0).trans rfl
                          have hcz28_1 : w6.cell? ⟨gb153, 1, none⟩ = some (.int .i64 0) := (blk_cell BK153.out 1).trans rfl
                          have hfz28_0 := blk_frozen BK153.out 0
                          have hfz28_1 := blk_frozen BK153.out 1
                          go_wp2_with (first | (go_at_call 35; (with_reducible refine (clewref15_skips.calls ((rd_T52 l0 x4_1).f1) true _ A13.out).mono ?_); rintro e w' ⟨rfl, ⟨nd, rfl⟩⟩))
                          go_meet
                          case rel => exact ⟨_, (false), (by first | rfl | (simp; done) | (simp [*]; done)), H', ⟨by have := HK1.out; first | omega | exact Nat.le_refl _⟩, ⟨by (with_reducible repeat (first | refine blk_drewN ?_ _ | refine blk_drew ?_ | refine blk_alloc ?_ _)); refine blk_put (cs := #[.int .i64 ((rd_T52 l0 x4_1).f0), .int .i64 0]) ?_ 1 _ rfl; (with_reducible repeat (first | refine blk_drewN ?_ _ | refine blk_drew ?_ | refine blk_alloc ?_ _)); refine blk_put (cs := #[.int .i64 0, .int .i64 0]) ?_ 0 _ rfl; (with_reducible repeat (first | refine blk_drewN ?_ _ | refine blk_drew ?_ | refine blk_alloc ?_ _)); exact BK153.out⟩, ⟨by repeat (first | (with_reducible first | exact HB.out | apply below_alloc | apply pw_below_drewN | apply below_drew1 | refine below_set ?_ GE153.out) | exact HB.out)⟩⟩
                      · rw [if_neg c25] at H
                        have c25b0 : decide (0 < ((rd_T52 l0 x4_1).f0)) = false := decide_eq_false c25
                        clear c25
                        have H' := Aside0.mk H
                        clear H
                        have hcz29_0 : w6.cell? ⟨gb153, 0, none⟩ = some (.int .i64 0) := (blk_cell BK153.out 0).trans rfl
                        have hcz29_1 : w6.cell? ⟨gb153, 1, none⟩ = some (.int .i64 0) := (blk_cell BK153.out 1).trans rfl
                        have hfz29_0 := blk_frozen BK153.out 0
                        have hfz29_1 := blk_frozen BK153.out 1
                        go_wp2_with (first | (go_at_call 35; (with_reducible refine (clewref15_skips.calls ((rd_T52 l0 x4_1).f1) true _ A13.out).mono ?_); rintro e w' ⟨rfl, ⟨nd, rfl⟩⟩))
                        go_meet
                        case rel => exact ⟨_, (false), (by first | rfl | (simp; done) | (simp [*]; done)), H', ⟨by have := HK1.out; first | omega | exact Nat.le_refl _⟩, ⟨by (with_reducible repeat (first | refine blk_drewN ?_ _ | refine blk_drew ?_ | refine blk_alloc ?_ _)); refine blk_put (cs := #[.int .i64 ((rd_T52 l0 x4_1).f0), .int .i64 0]) ?_ 1 _ rfl; (with_reducible repeat (first | refine blk_drewN ?_ _ | refine blk_drew ?_ | refine blk_alloc ?_ _)); refine blk_put (cs := #[.int .i64 0, .int .i64 0]) ?_ 0 _ rfl; (with_reducible repeat (first | refine blk_drewN ?_ _ | refine blk_drew ?_ | refine blk_alloc ?_ _)); exact BK153.out⟩, ⟨by repeat (first | (with_reducible first | exact HB.out | apply below_alloc | apply pw_below_drewN | apply below_drew1 | refine below_set ?_ GE153.out) | exact HB.out)⟩⟩
                  · replace c14 := Bool.eq_false_iff.mpr c14
                    subst c14
                    have H1 : (clewref15_Right.j1 k1 l0 x3_1 x4_1 true ((rd_T52 l0 x4_1).f0) ((rd_T52 l0 x4_1).f1)) = some r := by rw [if_neg (show ¬ (false = true) by decide)] at H; exact H
                    clear H
                    have H := H1
                    clear H1
                    have H' := Aside0.mk H
                    clear H
                    have hcz30_0 : w6.cell? ⟨gb153, 0, none⟩ = some (.int .i64 0) := (blk_cell BK153.out 0).trans rfl
                    have hcz30_1 : w6.cell? ⟨gb153, 1, none⟩ = some (.int .i64 0) := (blk_cell BK153.out 1).trans rfl
                    have hfz30_0 := blk_frozen BK153.out 0
                    have hfz30_1 := blk_frozen BK153.out 1
                    go_wp2_with (first | (go_at_call 35; (with_reducible refine (clewref15_skips.calls ((rd_T52 l0 x4_1).f1) false _ A13.out).mono ?_); rintro e w' ⟨rfl, ⟨nd, rfl⟩⟩))
                    go_meet
                    case rel => exact ⟨_, (true), (by first | rfl | (simp; done) | (simp [*]; done)), H', ⟨by have := HK1.out; first | omega | exact Nat.le_refl _⟩, ⟨by (with_reducible repeat (first | refine blk_drewN ?_ _ | refine blk_drew ?_ | refine blk_alloc ?_ _)); refine blk_put (cs := #[.int .i64 ((rd_T52 l0 x4_1).f0), .int .i64 0]) ?_ 1 _ rfl; (with_reducible repeat (first | refine blk_drewN ?_ _ | refine blk_drew ?_ | refine blk_alloc ?_ _)); refine blk_put (cs := #[.int .i64 0, .int .i64 0]) ?_ 0 _ rfl; (with_reducible repeat (first | refine blk_drewN ?_ _ | refine blk_drew ?_ | refine blk_alloc ?_ _)); exact BK153.out⟩, ⟨by repeat (first | (with_reducible first | exact HB.out | apply below_alloc | apply pw_below_drewN | apply below_drew1 | refine below_set ?_ GE153.out) | exact HB.out)⟩⟩
                · rw [if_neg c12] at H
                  have c12b0 : (((rd_T52 l0 x4_1).f0) == 0) = false := beq_eq_false_iff_ne.mpr c12
                  have c12b1 : (((rd_T52 l0 x4_1).f0) != 0) = true := bne_iff_ne.mpr c12
                  by_cases c31 : ((rd_T52 l0 x4_1).f0) = 5
                  · rw [if_pos c31] at H
                    have c31b0 : (((rd_T52 l0 x4_1).f0) == 5) = true := beq_iff_eq.mpr c31
                    have c31b1 : (((rd_T52 l0 x4_1).f0) != 5) = false := bne_eq_false_iff_eq.mpr c31
                    clear c31
                    by_cases c32 : ((rd_T52 l0 x4_1).f1) < 0
                    · rw [if_pos c32] at H
                      have c32b0 : decide (((rd_T52 l0 x4_1).f1) < 0) = true := decide_eq_true c32
                      clear c32
                      have H' := Aside0.mk H
                      clear H
                      have hcz33_0 : w6.cell? ⟨gb153, 0, none⟩ = some (.int .i64 0) := (blk_cell BK153.out 0).trans rfl
                      have hcz33_1 : w6.cell? ⟨gb153, 1, none⟩ = some (.int .i64 0) := (blk_cell BK153.out 1).trans rfl
                      have hfz33_0 := blk_frozen BK153.out 0
                      have hfz33_1 := blk_frozen BK153.out 1
                      go_wp2
                      go_meet
                      case rel => exact ⟨_, (true), (by first | rfl | (simp; done) | (simp [*]; done)), H', ⟨by have := HK1.out; first | omega | exact Nat.le_refl _⟩, ⟨by (with_reducible repeat (first | refine blk_drewN ?_ _ | refine blk_drew ?_ | refine blk_alloc ?_ _)); refine blk_put (cs := #[.int .i64 ((rd_T52 l0 x4_1).f0), .int .i64 0]) ?_ 1 _ rfl; (with_reducible repeat (first | refine blk_drewN ?_ _ | refine blk_drew ?_ | refine blk_alloc ?_ _)); refine blk_put (cs := #[.int .i64 0, .int .i64 0]) ?_ 0 _ rfl; (with_reducible repeat (first | refine blk_drewN ?_ _ | refine blk_drew ?_ | refine blk_alloc ?_ _)); exact BK153.out⟩, ⟨by repeat (first | (with_reducible first | exact HB.out | apply below_alloc | apply pw_below_drewN | apply below_drew1 | refine below_set ?_ GE153.out) | exact HB.out)⟩⟩
                    · rw [if_neg c32] at H
                      have c32b0 : decide (((rd_T52 l0 x4_1).f1) < 0) = false := decide_eq_false c32
                      clear c32
                      by_cases c34 : ((rd_T52 l0 x4_1).f1) ≥ x3_1
                      · rw [if_pos c34] at H
                        have c34b0 : decide (x3_1 ≤ ((rd_T52 l0 x4_1).f1)) = true := decide_eq_true c34
                        clear c34
                        have H' := Aside0.mk H
                        clear H
                        have hcz35_0 : w6.cell? ⟨gb153, 0, none⟩ = some (.int .i64 0) := (blk_cell BK153.out 0).trans rfl
                        have hcz35_1 : w6.cell? ⟨gb153, 1, none⟩ = some (.int .i64 0) := (blk_cell BK153.out 1).trans rfl
                        have hfz35_0 := blk_frozen BK153.out 0
                        have hfz35_1 := blk_frozen BK153.out 1
                        go_wp2
                        go_meet
                        case rel => exact ⟨_, (true), (by first | rfl | (simp; done) | (simp [*]; done)), H', ⟨by have := HK1.out; first | omega | exact Nat.le_refl _⟩, ⟨by (with_reducible repeat (first | refine blk_drewN ?_ _ | refine blk_drew ?_ | refine blk_alloc ?_ _)); refine blk_put (cs := #[.int .i64 ((rd_T52 l0 x4_1).f0), .int .i64 0]) ?_ 1 _ rfl; (with_reducible repeat (first | refine blk_drewN ?_ _ | refine blk_drew ?_ | refine blk_alloc ?_ _)); refine blk_put (cs := #[.int .i64 0, .int .i64 0]) ?_ 0 _ rfl; (with_reducible repeat (first | refine blk_drewN ?_ _ | refine blk_drew ?_ | refine blk_alloc ?_ _)); exact BK153.out⟩, ⟨by repeat (first | (with_reducible first | exact HB.out | apply below_alloc | apply pw_below_drewN | apply below_drew1 | refine below_set ?_ GE153.out) | exact HB.out)⟩⟩
                      · rw [if_neg c34] at H
                        have c34b0 : decide (x3_1 ≤ ((rd_T52 l0 x4_1).f1)) = false := decide_eq_false c34
                        clear c34
                        by_cases c36 : ((rd_T52 l0 x4_1).f0) > 0
                        · rw [if_pos c36] at H
                          have c36b0 : decide (0 < ((rd_T52 l0 x4_1).f0)) = true := decide_eq_true c36
                          clear c36
                          by_cases c37 : ((rd_T52 l0 x4_1).f0) < 5
                          · rw [if_pos c37] at H
                            have c37b0 : decide (((rd_T52 l0 x4_1).f0) < 5) = true := decide_eq_true c37
                            clear c37
                            have H' := Aside0.mk H
                            clear H
                            have hcz38_0 : w6.cell? ⟨gb153, 0, none⟩ = some (.int .i64 0) := (blk_cell BK153.out 0).trans rfl
                            have hcz38_1 : w6.cell? ⟨gb153, 1, none⟩ = some (.int .i64 0) := (blk_cell BK153.out 1).trans rfl
                            have hfz38_0 := blk_frozen BK153.out 0
                            have hfz38_1 := blk_frozen BK153.out 1
                            go_wp2
                            go_meet
                            case rel => exact ⟨_, ((((rd_T52 l0 x4_1).f1) != 0)), (by first | rfl | (simp; done) | (simp [*]; done)), H', ⟨by have := HK1.out; first | omega | exact Nat.le_refl _⟩, ⟨by (with_reducible repeat (first | refine blk_drewN ?_ _ | refine blk_drew ?_ | refine blk_alloc ?_ _)); refine blk_put (cs := #[.int .i64 ((rd_T52 l0 x4_1).f0), .int .i64 0]) ?_ 1 _ rfl; (with_reducible repeat (first | refine blk_drewN ?_ _ | refine blk_drew ?_ | refine blk_alloc ?_ _)); refine blk_put (cs := #[.int .i64 0, .int .i64 0]) ?_ 0 _ rfl; (with_reducible repeat (first | refine blk_drewN ?_ _ | refine blk_drew ?_ | refine blk_alloc ?_ _)); exact BK153.out⟩, ⟨by repeat (first | (with_reducible first | exact HB.out | apply below_alloc | apply pw_below_drewN | apply below_drew1 | refine below_set ?_ GE153.out) | exact HB.out)⟩⟩
                          · rw [if_neg c37] at H
                            have c37b0 : decide (((rd_T52 l0 x4_1).f0) < 5) = false := decide_eq_false c37
                            clear c37
                            have H' := Aside0.mk H
                            clear H
                            have hcz39_0 : w6.cell? ⟨gb153, 0, none⟩ = some (.int .i64 0) := (blk_cell BK153.out 0).trans rfl
                            have hcz39_1 : w6.cell? ⟨gb153, 1, none⟩ = some (.int .i64 0) := (blk_cell BK153.out 1).trans rfl
                            have hfz39_0 := blk_frozen BK153.out 0
                            have hfz39_1 := blk_frozen BK153.out 1
                            go_wp2
                            go_meet
                            case rel => exact ⟨_, (false), (by first | rfl | (simp; done) | (simp [*]; done)), H', ⟨by have := HK1.out; first | omega | exact Nat.le_refl _⟩, ⟨by (with_reducible repeat (first | refine blk_drewN ?_ _ | refine blk_drew ?_ | refine blk_alloc ?_ _)); refine blk_put (cs := #[.int .i64 ((rd_T52 l0 x4_1).f0), .int .i64 0]) ?_ 1 _ rfl; (with_reducible repeat (first | refine blk_drewN ?_ _ | refine blk_drew ?_ | refine blk_alloc ?_ _)); refine blk_put (cs := #[.int .i64 0, .int .i64 0]) ?_ 0 _ rfl; (with_reducible repeat (first | refine blk_drewN ?_ _ | refine blk_drew ?_ | refine blk_alloc ?_ _)); exact BK153.out⟩, ⟨by repeat (first | (with_reducible first | exact HB.out | apply below_alloc | apply pw_below_drewN | apply below_drew1 | refine below_set ?_ GE153.out) | exact HB.out)⟩⟩
                        · rw [if_neg c36] at H
                          have c36b0 : decide (0 < ((rd_T52 l0 x4_1).f0)) = false := decide_eq_false c36
                          clear c36
                          have H' := Aside0.mk H
                          clear H
                          have hcz40_0 : w6.cell? ⟨gb153, 0, none⟩ = some (.int .i64 0) := (blk_cell BK153.out 0).trans rfl
                          have hcz40_1 : w6.cell? ⟨gb153, 1, none⟩ = some (.int .i64 0) := (blk_cell BK153.out 1).trans rfl
                          have hfz40_0 := blk_frozen BK153.out 0
                          have hfz40_1 := blk_frozen BK153.out 1
                          go_wp2
                          go_meet
                          case rel => exact ⟨_, (false), (by first | rfl | (simp; done) | (simp [*]; done)), H', ⟨by have := HK1.out; first | omega | exact Nat.le_refl _⟩, ⟨by (with_reducible repeat (first | refine blk_drewN ?_ _ | refine blk_drew ?_ | refine blk_alloc ?_ _)); refine blk_put (cs := #[.int .i64 ((rd_T52 l0 x4_1).f0), .int .i64 0]) ?_ 1 _ rfl; (with_reducible repeat (first | refine blk_drewN ?_ _ | refine blk_drew ?_ | refine blk_alloc ?_ _)); refine blk_put (cs := #[.int .i64 0, .int .i64 0]) ?_ 0 _ rfl; (with_reducible repeat (first | refine blk_drewN ?_ _ | refine blk_drew ?_ | refine blk_alloc ?_ _)); exact BK153.out⟩, ⟨by repeat (first | (with_reducible first | exact HB.out | apply below_alloc | apply pw_below_drewN | apply below_drew1 | refine below_set ?_ GE153.out) | exact HB.out)⟩⟩
                  · rw [if_neg c31] at H
                    have c31b0 : (((rd_T52 l0 x4_1).f0) == 5) = false := beq_eq_false_iff_ne.mpr c31
                    have c31b1 : (((rd_T52 l0 x4_1).f0) != 5) = true := bne_iff_ne.mpr c31
                    by_cases c41 : ((rd_T52 l0 x4_1).f0) > 0
                    · rw [if_pos c41] at H
                      have c41b0 : decide (0 < ((rd_T52 l0 x4_1).f0)) = true := decide_eq_true c41
                      clear c41
                      by_cases c42 : ((rd_T52 l0 x4_1).f0) < 5
                      · rw [if_pos c42] at H
                        have c42b0 : decide (((rd_T52 l0 x4_1).f0) < 5) = true := decide_eq_true c42
                        clear c42
                        have H' := Aside0.mk H
                        clear H
                        have hcz43_0 : w6.cell? ⟨gb153, 0, none⟩ = some (.int .i64 0) := (blk_cell BK153.out 0).trans rfl
                        have hcz43_1 : w6.cell? ⟨gb153, 1, none⟩ = some (.int .i64 0) := (blk_cell BK153.out 1).trans rfl
                        have hfz43_0 := blk_frozen BK153.out 0
                        have hfz43_1 := blk_frozen BK153.out 1
                        go_wp2
                        go_meet
                        case rel => exact ⟨_, ((((rd_T52 l0 x4_1).f1) != 0)), (by first | rfl | (simp; done) | (simp [*]; done)), H', ⟨by have := HK1.out; first | omega | exact Nat.le_refl _⟩, ⟨by (with_reducible repeat (first | refine blk_drewN ?_ _ | refine blk_drew ?_ | refine blk_alloc ?_ _)); refine blk_put (cs := #[.int .i64 ((rd_T52 l0 x4_1).f0), .int .i64 0]) ?_ 1 _ rfl; (with_reducible repeat (first | refine blk_drewN ?_ _ | refine blk_drew ?_ | refine blk_alloc ?_ _)); refine blk_put (cs := #[.int .i64 0, .int .i64 0]) ?_ 0 _ rfl; (with_reducible repeat (first | refine blk_drewN ?_ _ | refine blk_drew ?_ | refine blk_alloc ?_ _)); exact BK153.out⟩, ⟨by repeat (first | (with_reducible first | exact HB.out | apply below_alloc | apply pw_below_drewN | apply below_drew1 | refine below_set ?_ GE153.out) | exact HB.out)⟩⟩
                      · rw [if_neg c42] at H
                        have c42b0 : decide (((rd_T52 l0 x4_1).f0) < 5) = false := decide_eq_false c42
                        clear c42
                        have H' := Aside0.mk H
                        clear H
                        have hcz44_0 : w6.cell? ⟨gb153, 0, none⟩ = some (.int .i64 0) := (blk_cell BK153.out 0).trans rfl
                        have hcz44_1 : w6.cell? ⟨gb153, 1, none⟩ = some (.int .i64 0) := (blk_cell BK153.out 1).trans rfl
                        have hfz44_0 := blk_frozen BK153.out 0
                        have hfz44_1 := blk_frozen BK153.out 1
                        go_wp2
                        go_meet
                        case rel => exact ⟨_, (false), (by first | rfl | (simp; done) | (simp [*]; done)), H', ⟨by have := HK1.out; first | omega | exact Nat.le_refl _⟩, ⟨by (with_reducible repeat (first | refine blk_drewN ?_ _ | refine blk_drew ?_ | refine blk_alloc ?_ _)); refine blk_put (cs := #[.int .i64 ((rd_T52 l0 x4_1).f0), .int .i64 0]) ?_ 1 _ rfl; (with_reducible repeat (first | refine blk_drewN ?_ _ | refine blk_drew ?_ | refine blk_alloc ?_ _)); refine blk_put (cs := #[.int .i64 0, .int .i64 0]) ?_ 0 _ rfl; (with_reducible repeat (first | refine blk_drewN ?_ _ | refine blk_drew ?_ | refine blk_alloc ?_ _)); exact BK153.out⟩, ⟨by repeat (first | (with_reducible first | exact HB.out | apply below_alloc | apply pw_below_drewN | apply below_drew1 | refine below_set ?_ GE153.out) | exact HB.out)⟩⟩
                    · rw [if_neg c41] at H
                      have c41b0 : decide (0 < ((rd_T52 l0 x4_1).f0)) = false := decide_eq_false c41
                      clear c41
                      have H' := Aside0.mk H
                      clear H
                      have hcz45_0 : w6.cell? ⟨gb153, 0, none⟩ = some (.int .i64 0) := (blk_cell BK153.out 0).trans rfl
                      have hcz45_1 : w6.cell? ⟨gb153, 1, none⟩ = some (.int .i64 0) := (blk_cell BK153.out 1).trans rfl
                      have hfz45_0 := blk_frozen BK153.out 0
                      have hfz45_1 := blk_frozen BK153.out 1
                      go_wp2
                      go_meet
                      case rel => exact ⟨_, (false), (by first | rfl | (simp; done) | (simp [*]; done)), H', ⟨by have := HK1.out; first | omega | exact Nat.le_refl _⟩, ⟨by (with_reducible repeat (first | refine blk_drewN ?_ _ | refine blk_drew ?_ | refine blk_alloc ?_ _)); refine blk_put (cs := #[.int .i64 ((rd_T52 l0 x4_1).f0), .int .i64 0]) ?_ 1 _ rfl; (with_reducible repeat (first | refine blk_drewN ?_ _ | refine blk_drew ?_ | refine blk_alloc ?_ _)); refine blk_put (cs := #[.int .i64 0, .int .i64 0]) ?_ 0 _ rfl; (with_reducible repeat (first | refine blk_drewN ?_ _ | refine blk_drew ?_ | refine blk_alloc ?_ _)); exact BK153.out⟩, ⟨by repeat (first | (with_reducible first | exact HB.out | apply below_alloc | apply pw_below_drewN | apply below_drew1 | refine below_set ?_ GE153.out) | exact HB.out)⟩⟩
          case rest =>
            clear HC5
            try clear c1
            try clear p1
            try clear q1
            try clear hx1
            try clear c2
            try clear c2b0
            try clear c2b1
            try clear p2
            try clear c3
            try clear c3b0
            try clear c4
            try clear c4b0
            try clear c8
            try clear c8b0
            try clear c8b2
            try clear c10
            try clear c10b0
            try clear c12
            try clear c12b0
            try clear c12b1
            try clear c14
            try clear c15
            try clear c15b0
            try clear c15b1
            try clear p15
            try clear q15
            try clear hx15
            try clear c16
            try clear c16b0
            try clear c18
            try clear c18b0
            try clear c20
            try clear c20b0
            try clear c21
            try clear c21b0
            try clear c24
            try clear c25
            try clear c25b0
            try clear c26
            try clear c26b0
            try clear c31
            try clear c31b0
            try clear c31b1
            try clear c32
            try clear c32b0
            try clear c34
            try clear c34b0
            try clear c36
            try clear c36b0
            try clear c37
            try clear c37b0
            try clear c41
            try clear c41b0
            try clear c42
            try clear c42b0
            try clear hcz11_0
            try clear hcz11_1
            try clear hcz17_0
            try clear hcz17_1
            try clear hcz19_0
            try clear hcz19_1
            try clear hcz22_0
            try clear hcz22_1
            try clear hcz23_0
            try clear hcz23_1
            try clear hcz24_0
            try clear hcz24_1
            try clear hcz27_0
            try clear hcz27_1
            try clear hcz28_0
            try clear hcz28_1
            try clear hcz29_0
            try clear hcz29_1
            try clear hcz30_0
            try clear hcz30_1
            try clear hcz33_0
            try clear hcz33_1
            try clear hcz35_0
            try clear hcz35_1
            try clear hcz38_0
            try clear hcz38_1
            try clear hcz39_0
            try clear hcz39_1
            try clear hcz40_0
            try clear hcz40_1
            try clear hcz43_0
            try clear hcz43_1
            try clear hcz44_0
            try clear hcz44_1
            try clear hcz45_0
            try clear hcz45_1
            try clear hcz7_0
            try clear hcz7_1
            try clear hcz9_0
            try clear hcz9_1
            try clear hfz11_0
            try clear hfz11_1
            try clear hfz17_0
            try clear hfz17_1
            try clear hfz19_0
            try clear hfz19_1
            try clear hfz22_0
            try clear hfz22_1
            try clear hfz23_0
            try clear hfz23_1
            try clear hfz24_0
            try clear hfz24_1
            try clear hfz27_0
            try clear hfz27_1
            try clear hfz28_0
            try clear hfz28_1
            try clear hfz29_0
            try clear hfz29_1
            try clear hfz30_0
            try clear hfz30_1
            try clear hfz33_0
            try clear hfz33_1
            try clear hfz35_0
            try clear hfz35_1
            try clear hfz38_0
            try clear hfz38_1
            try clear hfz39_0
            try clear hfz39_1
            try clear hfz40_0
            try clear hfz40_1
            try clear hfz43_0
            try clear hfz43_1
            try clear hfz44_0
            try clear hfz44_1
            try clear hfz45_0
            try clear hfz45_1
            try clear hfz7_0
            try clear hfz7_1
            try clear hfz9_0
            try clear hfz9_1
            try clear hx152_0
            try clear hx152_1
            try clear p152
            try clear p2
            try clear q152
            obtain ⟨kq, x68_4, rfl, HA, HJ4, BK153, HB⟩ := hcut
            cases kq with
            | zero => exact absurd HA.out (by simp [clewref15_Right.j1])
            | succ kj4 =>
              have H := HA.out
              clear HA
              simp only [clewref15_Right.j1] at H
              by_cases c46 : x68_4 = true
              · subst c46
                have H1 : (some false) = some r := by rw [if_pos rfl] at H; exact H
                clear H
                have H := H1
                clear H1
                obtain rfl := Option.some.inj H
                go_wp2
                go_ret
                exact ⟨by first | rfl | (simp [errW_none, errW_some] <;> rfl) | (simp [*, errW_none, errW_some] <;> rfl), by repeat (first | (with_reducible first | exact HB.out | apply below_alloc | apply pw_below_drewN | apply below_drew1 | refine below_set ?_ GE153.out) | exact HB.out)⟩
              · replace c46 := Bool.eq_false_iff.mpr c46
                subst c46
                have H1 : (if x4_1 = 0 then (clewref15_Right.j2 kj4 l0 x3_1 x4_1 (decide (((rd_T52 l0 x4_1).f0) > 1)) ((rd_T52 l0 x4_1).f0) ((rd_T52 l0 x4_1).f1)) else (clewref15_Right.j2 kj4 l0 x3_1 x4_1 false ((rd_T52 l0 x4_1).f0) ((rd_T52 l0 x4_1).f1))) = some r := by rw [if_neg (show ¬ (false = true) by decide)] at H; exact H
                clear H
                have H := H1
                clear H1
                have HC47 := Aside0.mk H
                clear H
                go_upto_region 10 with (fail)
                go_cut [75] (fun v75 wc => ∃ (kq : Nat) (x75_46 : Bool), v75 = .bool x75_46 ∧ Aside0 (clewref15_Right.j2 kq l0 x3_1 x4_1 x75_46 ((rd_T52 l0 x4_1).f0) ((rd_T52 l0 x4_1).f1) = some r) ∧ Aside0 (kq ≤ kj4) ∧ Aside0 (wc.heap[gb153]? = some (.cells #[.int .i64 ((rd_T52 l0 x4_1).f0), .int .i64 ((rd_T52 l0 x4_1).f1)] 52 (0, 0))) ∧ Aside0 (Below w.heap.size w wc))
                case first =>
                  have H := HC47.out
                  clear HC47
                  by_cases c48 : x4_1 = 0
                  · rw [if_pos c48] at H
                    have c48b0 : (x4_1 == 0) = true := beq_iff_eq.mpr c48
                    have c48b1 : (x4_1 != 0) = false := bne_eq_false_iff_eq.mpr c48
                    clear c48
                    (first | rw [c48b0] | rw [c48b3] | rw [c48b2] | (simp only [i64_w, i32_w]; rw [c48b0]) | skip)
                    have H' := Aside0.mk H
                    clear H
                    have hcz49_0 : wc.cell? ⟨gb153, 0, none⟩ = some (.int .i64 ((rd_T52 l0 x4_1).f0)) := (blk_cell BK153.out 0).trans rfl
                    have hcz49_1 : wc.cell? ⟨gb153, 1, none⟩ = some (.int .i64 ((rd_T52 l0 x4_1).f1)) := (blk_cell BK153.out 1).trans rfl
                    have hfz49_0 := blk_frozen BK153.out 0
                    have hfz49_1 := blk_frozen BK153.out 1
                    go_wp2
                    go_meet
                    case rel => exact ⟨_, (decide (((rd_T52 l0 x4_1).f0) > 1)), (by first | rfl | (simp; done) | (simp [*]; done)), H', ⟨by have := HK1.out; have := HJ4.out; first | omega | exact Nat.le_refl _⟩, ⟨by (with_reducible repeat (first | refine blk_drewN ?_ _ | refine blk_drew ?_ | refine blk_alloc ?_ _)); exact BK153.out⟩, ⟨by repeat (first | (with_reducible first | exact HB.out | apply below_alloc | apply pw_below_drewN | apply below_drew1 | refine below_set ?_ GE153.out) | exact HB.out)⟩⟩
                  · rw [if_neg c48] at H
                    have c48b0 : (x4_1 == 0) = false := beq_eq_false_iff_ne.mpr c48
                    have c48b1 : (x4_1 != 0) = true := bne_iff_ne.mpr c48
                    (first | rw [c48b0] | rw [c48b3] | rw [c48b2] | (simp only [i64_w, i32_w]; rw [c48b0]) | skip)
                    have H' := Aside0.mk H
                    clear H
                    go_wp2
                    go_meet
                    case rel => exact ⟨_, (false), (by first | rfl | (simp; done) | (simp [*]; done)), H', ⟨by have := HK1.out; have := HJ4.out; first | omega | exact Nat.le_refl _⟩, ⟨by (with_reducible repeat (first | refine blk_drewN ?_ _ | refine blk_drew ?_ | refine blk_alloc ?_ _)); exact BK153.out⟩, ⟨by repeat (first | (with_reducible first | exact HB.out | apply below_alloc | apply pw_below_drewN | apply below_drew1 | refine below_set ?_ GE153.out) | exact HB.out)⟩⟩
                case rest =>
                  clear HC47
                  try clear c1
                  try clear p1
                  try clear q1
                  try clear hx1
                  try clear c2
                  try clear c2b0
                  try clear c2b1
                  try clear p2
                  try clear c3
                  try clear c3b0
                  try clear c4
                  try clear c4b0
                  try clear c8
                  try clear c8b0
                  try clear c8b2
                  try clear c10
                  try clear c10b0
                  try clear c12
                  try clear c12b0
                  try clear c12b1
                  try clear c14
                  try clear c15
                  try clear c15b0
                  try clear c15b1
                  try clear p15
                  try clear q15
                  try clear hx15
                  try clear c16
                  try clear c16b0
                  try clear c18
                  try clear c18b0
                  try clear c20
                  try clear c20b0
                  try clear c21
                  try clear c21b0
                  try clear c24
                  try clear c25
                  try clear c25b0
                  try clear c26
                  try clear c26b0
                  try clear c31
                  try clear c31b0
                  try clear c31b1
                  try clear c32
                  try clear c32b0
                  try clear c34
                  try clear c34b0
                  try clear c36
                  try clear c36b0
                  try clear c37
                  try clear c37b0
                  try clear c41
                  try clear c41b0
                  try clear c42
                  try clear c42b0
                  try clear c46
                  try clear c48
                  try clear c48b0
                  try clear c48b1
                  try clear c48b2
                  try clear hcz11_0
                  try clear hcz11_1
                  try clear hcz17_0
                  try clear hcz17_1
                  try clear hcz19_0
                  try clear hcz19_1
                  try clear hcz22_0
                  try clear hcz22_1
                  try clear hcz23_0
                  try clear hcz23_1
                  try clear hcz24_0
                  try clear hcz24_1
                  try clear hcz27_0
                  try clear hcz27_1
                  try clear hcz28_0
                  try clear hcz28_1
                  try clear hcz29_0
                  try clear hcz29_1
                  try clear hcz30_0
                  try clear hcz30_1
                  try clear hcz33_0
                  try clear hcz33_1
                  try clear hcz35_0
                  try clear hcz35_1
                  try clear hcz38_0
                  try clear hcz38_1
                  try clear hcz39_0
                  try clear hcz39_1
                  try clear hcz40_0
                  try clear hcz40_1
                  try clear hcz43_0
                  try clear hcz43_1
                  try clear hcz44_0
                  try clear hcz44_1
                  try clear hcz45_0
                  try clear hcz45_1
                  try clear hcz49_0
                  try clear hcz49_1
                  try clear hcz7_0
                  try clear hcz7_1
                  try clear hcz9_0
                  try clear hcz9_1
                  try clear hfz11_0
                  try clear hfz11_1
                  try clear hfz17_0
                  try clear hfz17_1
                  try clear hfz19_0
                  try clear hfz19_1
                  try clear hfz22_0
                  try clear hfz22_1
                  try clear hfz23_0
                  try clear hfz23_1
                  try clear hfz24_0
                  try clear hfz24_1
                  try clear hfz27_0
                  try clear hfz27_1
                  try clear hfz28_0
                  try clear hfz28_1
                  try clear hfz29_0
                  try clear hfz29_1
                  try clear hfz30_0
                  try clear hfz30_1
                  try clear hfz33_0
                  try clear hfz33_1
                  try clear hfz35_0
                  try clear hfz35_1
                  try clear hfz38_0
                  try clear hfz38_1
                  try clear hfz39_0
                  try clear hfz39_1
                  try clear hfz40_0
                  try clear hfz40_1
                  try clear hfz43_0
                  try clear hfz43_1
                  try clear hfz44_0
                  try clear hfz44_1
                  try clear hfz45_0
                  try clear hfz45_1
                  try clear hfz49_0
                  try clear hfz49_1
                  try clear hfz7_0
                  try clear hfz7_1
                  try clear hfz9_0
                  try clear hfz9_1
                  try clear hx152_0
                  try clear hx152_1
                  try clear p1
                  try clear p15
                  try clear p152
                  try clear p2
                  try clear q1
                  try clear q15
                  try clear q152
                  obtain ⟨kq, x75_46, rfl, HA, HJ46, BK153, HB⟩ := hcut
                  cases kq with
                  | zero => exact absurd HA.out (by simp [clewref15_Right.j2])
                  | succ kj46 =>
                    have H := HA.out
                    clear HA
                    simp only [clewref15_Right.j2] at H
                    by_cases c50 : x75_46 = true
                    · subst c50
                      have H1 : (some false) = some r := by rw [if_pos rfl] at H; exact H
                      clear H
                      have H := H1
                      clear H1
                      obtain rfl := Option.some.inj H
                      go_wp2
                      go_ret
                      exact ⟨by first | rfl | (simp [errW_none, errW_some] <;> rfl) | (simp [*, errW_none, errW_some] <;> rfl), by repeat (first | (with_reducible first | exact HB.out | apply below_alloc | apply pw_below_drewN | apply below_drew1 | refine below_set ?_ GE153.out) | exact HB.out)⟩
                    · replace c50 := Bool.eq_false_iff.mpr c50
                      subst c50
                      have H1 : (if ((rd_T52 l0 x4_1).f0) = 0 then (if (wrap64 (x4_1 + 1)) < (l0.length : Int) then (if 0 ≤ (wrap64 (x4_1 + 1)) then (clewref15_Right.j3 kj46 l0 x3_1 x4_1 (((rd_T52 l0 (wrap64 (x4_1 + 1))).f0) != 1) ((rd_T52 l0 x4_1).f0) ((rd_T52 l0 x4_1).f1)) else (none)) else (clewref15_Right.j3 kj46 l0 x3_1 x4_1 false ((rd_T52 l0 x4_1).f0) ((rd_T52 l0 x4_1).f1))) else (clewref15_Right.j3 kj46 l0 x3_1 x4_1 false ((rd_T52 l0 x4_1).f0) ((rd_T52 l0 x4_1).f1))) = some r := by rw [if_neg (show ¬ (false = true) by decide)] at H; exact H
                      clear H
                      have H := H1
                      clear H1
                      have HC51 := Aside0.mk H
                      clear H
                      go_upto_region 12 with (fail)
                      go_cut [94] (fun v94 wc => ∃ (kq : Nat) (x94_50 : Bool), v94 = .bool x94_50 ∧ Aside0 (clewref15_Right.j3 kq l0 x3_1 x4_1 x94_50 ((rd_T52 l0 x4_1).f0) ((rd_T52 l0 x4_1).f1) = some r) ∧ Aside0 (kq ≤ kj46) ∧ Aside0 (wc.heap[gb153]? = some (.cells #[.int .i64 ((rd_T52 l0 x4_1).f0), .int .i64 ((rd_T52 l0 x4_1).f1)] 52 (0, 0))) ∧ Aside0 (Below w.heap.size w wc))
                      case first =>
                        have H := HC51.out
                        clear HC51
                        by_cases c52 : ((rd_T52 l0 x4_1).f0) = 0
                        · rw [if_pos c52] at H
                          have c52b0 : (((rd_T52 l0 x4_1).f0) == 0) = true := beq_iff_eq.mpr c52
                          have c52b1 : (((rd_T52 l0 x4_1).f0) != 0) = false := bne_eq_false_iff_eq.mpr c52
                          clear c52
                          (first | rw [c52b0] | rw [c52b3] | rw [c52b2] | (simp only [i64_w, i32_w]; rw [c52b0]) | skip)
                          by_cases c53 : (wrap64 (x4_1 + 1)) < (l0.length : Int)
                          · rw [if_pos c53] at H
                            have c53b0 : decide ((wrap64 (x4_1 + 1)) < (l0.length : Int)) = true := decide_eq_true c53
                            clear c53
                            obtain ⟨ji54, hji54⟩ : ∃ j_ : Int, (wrap64 (x4_1 + 1)) = j_ := ⟨_, rfl⟩
                            replace H : (if 0 ≤ (ji54) then (clewref15_Right.j3 kj46 l0 x3_1 x4_1 (((rd_T52 l0 (ji54)).f0) != 1) ((rd_T52 l0 x4_1).f0) ((rd_T52 l0 x4_1).f1)) else (none)) = some r := by first | (rw [hji54] at H; exact H) | (simp only [hji54] at H ⊢; exact H)
                            (try rw [hji54] at c53b0)
                            have hji54w : (IntKind.i64.wrap (x4_1 + 1)) = ji54 := (i64_w _).trans hji54
                            obtain ⟨c55, H⟩ := ite_yes_ H
                            have c55b0 : decide (0 ≤ (ji54)) = true := decide_eq_true c55
                            clear c55
                            have H' := Aside0.mk H
                            clear H
                            have hcz56_0 : wc.cell? ⟨gb153, 0, none⟩ = some (.int .i64 ((rd_T52 l0 x4_1).f0)) := (blk_cell BK153.out 0).trans rfl
                            have hcz56_1 : wc.cell? ⟨gb153, 1, none⟩ = some (.int .i64 ((rd_T52 l0 x4_1).f1)) := (blk_cell BK153.out 1).trans rfl
                            have hfz56_0 := blk_frozen BK153.out 0
                            have hfz56_1 := blk_frozen BK153.out 1
                            have p155 : 0 ≤ ((ji54) : Int) := of_decide_eq_true (by first | (with_reducible assumption) | assumption)
                            have q155 : (ji54) < (l0.length : Int) := of_decide_eq_true (by first | (with_reducible assumption) | assumption)
                            obtain ⟨ad155, e155, hx155_0, hx155_1⟩ := at_T52 HR0.out (ji54) p155 q155
                            obtain rfl : ad152 = ad155 := (by injection e155)
                            replace hx155_0 := (HB.out.cell (World.block_lt_of_cell? w _ hx155_0)).trans hx155_0
                            replace hx155_1 := (HB.out.cell (World.block_lt_of_cell? w _ hx155_1)).trans hx155_1
                            replace p155 := eq_true p155
                            replace q155 := eq_true q155
                            go_wp2
                            go_meet
                            case rel => exact ⟨_, ((((rd_T52 l0 (ji54)).f0) != 1)), (by first | rfl | (simp; done) | (simp only [← hji54] <;> (first | rfl | simp)) | (simp [*]; done)), H', ⟨by have := HK1.out; have := HJ4.out; have := HJ46.out; first | omega | exact Nat.le_refl _⟩, ⟨by (with_reducible repeat (first | refine blk_drewN ?_ _ | refine blk_drew ?_ | refine blk_alloc ?_ _)); exact BK153.out⟩, ⟨by repeat (first | (with_reducible first | exact HB.out | apply below_alloc | apply pw_below_drewN | apply below_drew1 | refine below_set ?_ GE153.out) | exact HB.out)⟩⟩
                          · rw [if_neg c53] at H
                            have c53b0 : decide ((wrap64 (x4_1 + 1)) < (l0.length : Int)) = false := decide_eq_false c53
                            clear c53
                            have H' := Aside0.mk H
                            clear H
                            have hcz57_0 : wc.cell? ⟨gb153, 0, none⟩ = some (.int .i64 ((rd_T52 l0 x4_1).f0)) := (blk_cell BK153.out 0).trans rfl
                            have hcz57_1 : wc.cell? ⟨gb153, 1, none⟩ = some (.int .i64 ((rd_T52 l0 x4_1).f1)) := (blk_cell BK153.out 1).trans rfl
                            have hfz57_0 := blk_frozen BK153.out 0
                            have hfz57_1 := blk_frozen BK153.out 1
                            go_wp2
                            go_meet
                            case rel => exact ⟨_, (false), (by first | rfl | (simp; done) | (simp [*]; done)), H', ⟨by have := HK1.out; have := HJ4.out; have := HJ46.out; first | omega | exact Nat.le_refl _⟩, ⟨by (with_reducible repeat (first | refine blk_drewN ?_ _ | refine blk_drew ?_ | refine blk_alloc ?_ _)); exact BK153.out⟩, ⟨by repeat (first | (with_reducible first | exact HB.out | apply below_alloc | apply pw_below_drewN | apply below_drew1 | refine below_set ?_ GE153.out) | exact HB.out)⟩⟩
                        · rw [if_neg c52] at H
                          have c52b0 : (((rd_T52 l0 x4_1).f0) == 0) = false := beq_eq_false_iff_ne.mpr c52
                          have c52b1 : (((rd_T52 l0 x4_1).f0) != 0) = true := bne_iff_ne.mpr c52
                          (first | rw [c52b0] | rw [c52b3] | rw [c52b2] | (simp only [i64_w, i32_w]; rw [c52b0]) | skip)
                          have H' := Aside0.mk H
                          clear H
                          have hcz58_0 : wc.cell? ⟨gb153, 0, none⟩ = some (.int .i64 ((rd_T52 l0 x4_1).f0)) := (blk_cell BK153.out 0).trans rfl
                          have hcz58_1 : wc.cell? ⟨gb153, 1, none⟩ = some (.int .i64 ((rd_T52 l0 x4_1).f1)) := (blk_cell BK153.out 1).trans rfl
                          have hfz58_0 := blk_frozen BK153.out 0
                          have hfz58_1 := blk_frozen BK153.out 1
                          go_wp2
                          go_meet
                          case rel => exact ⟨_, (false), (by first | rfl | (simp; done) | (simp [*]; done)), H', ⟨by have := HK1.out; have := HJ4.out; have := HJ46.out; first | omega | exact Nat.le_refl _⟩, ⟨by (with_reducible repeat (first | refine blk_drewN ?_ _ | refine blk_drew ?_ | refine blk_alloc ?_ _)); exact BK153.out⟩, ⟨by repeat (first | (with_reducible first | exact HB.out | apply below_alloc | apply pw_below_drewN | apply below_drew1 | refine below_set ?_ GE153.out) | exact HB.out)⟩⟩
                      case rest =>
                        clear HC51
                        try clear c1
                        try clear p1
                        try clear q1
                        try clear hx1
                        try clear c2
                        try clear c2b0
                        try clear c2b1
                        try clear p2
                        try clear c3
                        try clear c3b0
                        try clear c4
                        try clear c4b0
                        try clear c5
                        try clear p6
                        try clear c8
                        try clear c8b0
                        try clear c8b2
                        try clear c10
                        try clear c10b0
                        try clear c12
                        try clear c12b0
                        try clear c12b1
                        try clear c14
                        try clear c15
                        try clear c15b0
                        try clear c15b1
                        try clear p15
                        try clear q15
                        try clear hx15
                        try clear c16
                        try clear c16b0
                        try clear c18
                        try clear c18b0
                        try clear c20
                        try clear c20b0
                        try clear c21
                        try clear c21b0
                        try clear c24
                        try clear c25
                        try clear c25b0
                        try clear c26
                        try clear c26b0
                        try clear c31
                        try clear c31b0
                        try clear c31b1
                        try clear c32
                        try clear c32b0
                        try clear c34
                        try clear c34b0
                        try clear c36
                        try clear c36b0
                        try clear c37
                        try clear c37b0
                        try clear c41
                        try clear c41b0
                        try clear c42
                        try clear c42b0
                        try clear c46
                        try clear c48
                        try clear c48b0
                        try clear c48b1
                        try clear c48b2
                        try clear c50
                        try clear c52
                        try clear c52b0
                        try clear c52b1
                        try clear c52b2
                        try clear c53
                        try clear c53b0
                        try clear c55
                        try clear c55b0
                        try clear hcz11_0
                        try clear hcz11_1
                        try clear hcz17_0
                        try clear hcz17_1
                        try clear hcz19_0
                        try clear hcz19_1
                        try clear hcz22_0
                        try clear hcz22_1
                        try clear hcz23_0
                        try clear hcz23_1
                        try clear hcz24_0
                        try clear hcz24_1
                        try clear hcz27_0
                        try clear hcz27_1
                        try clear hcz28_0
                        try clear hcz28_1
                        try clear hcz29_0
                        try clear hcz29_1
                        try clear hcz30_0
                        try clear hcz30_1
                        try clear hcz33_0
                        try clear hcz33_1
                        try clear hcz35_0
                        try clear hcz35_1
                        try clear hcz38_0
                        try clear hcz38_1
                        try clear hcz39_0
                        try clear hcz39_1
                        try clear hcz40_0
                        try clear hcz40_1
                        try clear hcz43_0
                        try clear hcz43_1
                        try clear hcz44_0
                        try clear hcz44_1
                        try clear hcz45_0
                        try clear hcz45_1
                        try clear hcz49_0
                        try clear hcz49_1
                        try clear hcz56_0
                        try clear hcz56_1
                        try clear hcz57_0
                        try clear hcz57_1
                        try clear hcz58_0
                        try clear hcz58_1
                        try clear hcz7_0
                        try clear hcz7_1
                        try clear hcz9_0
                        try clear hcz9_1
                        try clear hfz11_0
                        try clear hfz11_1
                        try clear hfz17_0
                        try clear hfz17_1
                        try clear hfz19_0
                        try clear hfz19_1
                        try clear hfz22_0
                        try clear hfz22_1
                        try clear hfz23_0
                        try clear hfz23_1
                        try clear hfz24_0
                        try clear hfz24_1
                        try clear hfz27_0
                        try clear hfz27_1
                        try clear hfz28_0
                        try clear hfz28_1
                        try clear hfz29_0
                        try clear hfz29_1
                        try clear hfz30_0
                        try clear hfz30_1
                        try clear hfz33_0
                        try clear hfz33_1
                        try clear hfz35_0
                        try clear hfz35_1
                        try clear hfz38_0
                        try clear hfz38_1
                        try clear hfz39_0
                        try clear hfz39_1
                        try clear hfz40_0
                        try clear hfz40_1
                        try clear hfz43_0
                        try clear hfz43_1
                        try clear hfz44_0
                        try clear hfz44_1
                        try clear hfz45_0
                        try clear hfz45_1
                        try clear hfz49_0
                        try clear hfz49_1
                        try clear hfz56_0
                        try clear hfz56_1
                        try clear hfz57_0
                        try clear hfz57_1
                        try clear hfz58_0
                        try clear hfz58_1
                        try clear hfz7_0
                        try clear hfz7_1
                        try clear hfz9_0
                        try clear hfz9_1
                        try clear hx152_0
                        try clear hx152_1
                        try clear hx155_0
                        try clear hx155_1
                        try clear p1
                        try clear p15
                        try clear p152
                        try clear p155
                        try clear p2
                        try clear q1
                        try clear q15
                        try clear q152
                        try clear q155
                        obtain ⟨kq, x94_50, rfl, HA, HJ50, BK153, HB⟩ := hcut
                        cases kq with
                        | zero => exact absurd HA.out (by simp [clewref15_Right.j3])
                        | succ kj50 =>
                          have H := HA.out
                          clear HA
                          simp only [clewref15_Right.j3] at H
                          by_cases c59 : x94_50 = true
                          · subst c59
                            have H1 : (some false) = some r := by rw [if_pos rfl] at H; exact H
                            clear H
                            have H := H1
                            clear H1
                            obtain rfl := Option.some.inj H
                            go_wp2
                            go_ret
                            exact ⟨by first | rfl | (simp [errW_none, errW_some] <;> rfl) | (simp [*, errW_none, errW_some] <;> rfl), by repeat (first | (with_reducible first | exact HB.out | apply below_alloc | apply pw_below_drewN | apply below_drew1 | refine below_set ?_ GE153.out) | exact HB.out)⟩
                          · replace c59 := Bool.eq_false_iff.mpr c59
                            subst c59
                            have H1 : (if ((rd_T52 l0 x4_1).f0) = 4 then (if (wrap64 (x4_1 + 1)) = (l0.length : Int) then (clewref15_Right.j4 kj50 l0 x3_1 x4_1 true ((rd_T52 l0 x4_1).f0) ((rd_T52 l0 x4_1).f1)) else (if 0 ≤ (wrap64 (x4_1 + 1)) then (if (wrap64 (x4_1 + 1)) < (l0.length : Int) then (if ((rd_T52 l0 (wrap64 (x4_1 + 1))).f0) = 2 then (clewref15_Right.j4 kj50 l0 x3_1 x4_1 false ((rd_T52 l0 x4_1).f0) ((rd_T52 l0 x4_1).f1)) else (clewref15_Right.j4 kj50 l0 x3_1 x4_1 (((rd_T52 l0 (wrap64 (x4_1 + 1))).f0) != 3) ((rd_T52 l0 x4_1).f0) ((rd_T52 l0 x4_1).f1))) else (none)) else (none))) else (clewref15_Right.j4 kj50 l0 x3_1 x4_1 false ((rd_T52 l0 x4_1).f0) ((rd_T52 l0 x4_1).f1))) = some r := by rw [if_neg (show ¬ (false = true) by decide)] at H; exact H
                            clear H
                            have H := H1
                            clear H1
                            have HC60 := Aside0.mk H
                            clear H
                            go_upto_region 14 with (fail)
                            go_cut [122] (fun v122 wc => ∃ (kq : Nat) (x122_59 : Bool), v122 = .bool x122_59 ∧ Aside0 (clewref15_Right.j4 kq l0 x3_1 x4_1 x122_59 ((rd_T52 l0 x4_1).f0) ((rd_T52 l0 x4_1).f1) = some r) ∧ Aside0 (kq ≤ kj50) ∧ Aside0 (wc.heap[gb153]? = some (.cells #[.int .i64 ((rd_T52 l0 x4_1).f0), .int .i64 ((rd_T52 l0 x4_1).f1)] 52 (0, 0))) ∧ Aside0 (Below w.heap.size w wc))
                            case first =>
                              have H := HC60.out
                              clear HC60
                              by_cases c61 : ((rd_T52 l0 x4_1).f0) = 4
                              · rw [if_pos c61] at H
                                have c61b0 : (((rd_T52 l0 x4_1).f0) == 4) = true := beq_iff_eq.mpr c61
                                have c61b1 : (((rd_T52 l0 x4_1).f0) != 4) = false := bne_eq_false_iff_eq.mpr c61
                                clear c61
                                (first | rw [c61b0] | rw [c61b3] | rw [c61b2] | (simp only [i64_w, i32_w]; rw [c61b0]) | skip)
                                by_cases c62 : (wrap64 (x4_1 + 1)) = (l0.length : Int)
                                · rw [if_pos c62] at H
                                  have c62b0 : ((wrap64 (x4_1 + 1)) == (l0.length : Int)) = true := beq_iff_eq.mpr c62
                                  have c62b1 : ((wrap64 (x4_1 + 1)) != (l0.length : Int)) = false := bne_eq_false_iff_eq.mpr c62
                                  clear c62
                                  have H' := Aside0.mk H
                                  clear H
                                  have hcz63_0 : wc.cell? ⟨gb153, 0, none⟩ = some (.int .i64 ((rd_T52 l0 x4_1).f0)) := (blk_cell BK153.out 0).trans rfl
                                  have hcz63_1 : wc.cell? ⟨gb153, 1, none⟩ = some (.int .i64 ((rd_T52 l0 x4_1).f1)) := (blk_cell BK153.out 1).trans rfl
                                  have hfz63_0 := blk_frozen BK153.out 0
                                  have hfz63_1 := blk_frozen BK153.out 1
                                  go_wp2
                                  go_meet
                                  case rel => exact ⟨_, (true), (by first | rfl | (simp; done) | (simp [*]; done)), H', ⟨by have := HK1.out; have := HJ4.out; have := HJ46.out; have := HJ50.out; first | omega | exact Nat.le_refl _⟩, ⟨by (with_reducible repeat (first | refine blk_drewN ?_ _ | refine blk_drew ?_ | refine blk_alloc ?_ _)); exact BK153.out⟩, ⟨by repeat (first | (with_reducible first | exact HB.out | apply below_alloc | apply pw_below_drewN | apply below_drew1 | refine below_set ?_ GE153.out) | exact HB.out)⟩⟩
                                · rw [if_neg c62] at H
                                  have c62b0 : ((wrap64 (x4_1 + 1)) == (l0.length : Int)) = false := beq_eq_false_iff_ne.mpr c62
                                  have c62b1 : ((wrap64 (x4_1 + 1)) != (l0.length : Int)) = true := bne_iff_ne.mpr c62
                                  obtain ⟨ji64, hji64⟩ : ∃ j_ : Int, (wrap64 (x4_1 + 1)) = j_ := ⟨_, rfl⟩
                                  replace H : (if 0 ≤ (ji64) then (if (ji64) < (l0.length : Int) then (if ((rd_T52 l0 (ji64)).f0) = 2 then (clewref15_Right.j4 kj50 l0 x3_1 x4_1 false ((rd_T52 l0 x4_1).f0) ((rd_T52 l0 x4_1).f1)) else (clewref15_Right.j4 kj50 l0 x3_1 x4_1 (((rd_T52 l0 (ji64)).f0) != 3) ((rd_T52 l0 x4_1).f0) ((rd_T52 l0 x4_1).f1))) else (none)) else (none)) = some r := by first | (rw [hji64] at H; exact H) | (simp only [hji64] at H ⊢; exact H)
                                  (try rw [hji64] at c62b0)
                                  (try rw [hji64] at c62b1)
                                  have hji64w : (IntKind.i64.wrap (x4_1 + 1)) = ji64 := (i64_w _).trans hji64
                                  obtain ⟨c65, H⟩ := ite_yes_ H
                                  have c65b0 : decide (0 ≤ (ji64)) = true := decide_eq_true c65
                                  clear c65
                                  obtain ⟨c66, H⟩ := ite_yes_ H
                                  have c66b0 : decide ((ji64) < (l0.length : Int)) = true := decide_eq_true c66
                                  clear c66
                                  by_cases c67 : ((rd_T52 l0 (ji64)).f0) = 2
                                  · rw [if_pos c67] at H
                                    have c67b0 : (((rd_T52 l0 (ji64)).f0) == 2) = true := beq_iff_eq.mpr c67
                                    have c67b1 : (((rd_T52 l0 (ji64)).f0) != 2) = false := bne_eq_false_iff_eq.mpr c67
                                    clear c67
                                    have H' := Aside0.mk H
                                    clear H
                                    have hcz68_0 : wc.cell? ⟨gb153, 0, none⟩ = some (.int .i64 ((rd_T52 l0 x4_1).f0)) := (blk_cell BK153.out 0).trans rfl
                                    have hcz68_1 : wc.cell? ⟨gb153, 1, none⟩ = some (.int .i64 ((rd_T52 l0 x4_1).f1)) := (blk_cell BK153.out 1).trans rfl
                                    have hfz68_0 := blk_frozen BK153.out 0
                                    have hfz68_1 := blk_frozen BK153.out 1
                                    have p156 : 0 ≤ ((ji64) : Int) := of_decide_eq_true (by first | (with_reducible assumption) | assumption)
                                    have q156 : (ji64) < (l0.length : Int) := of_decide_eq_true (by first | (with_reducible assumption) | assumption)
                                    obtain ⟨ad156, e156, hx156_0, hx156_1⟩ := at_T52 HR0.out (ji64) p156 q156
                                    obtain rfl : ad152 = ad156 := (by injection e156)
                                    replace hx156_0 := (HB.out.cell (World.block_lt_of_cell? w _ hx156_0)).trans hx156_0
                                    replace hx156_1 := (HB.out.cell (World.block_lt_of_cell? w _ hx156_1)).trans hx156_1
                                    replace p156 := eq_true p156
                                    replace q156 := eq_true q156
                                    go_wp2
                                    go_meet
                                    case rel => exact ⟨_, (false), (by first | rfl | (simp; done) | (simp [*]; done)), H', ⟨by have := HK1.out; have := HJ4.out; have := HJ46.out; have := HJ50.out; first | omega | exact Nat.le_refl _⟩, ⟨by (with_reducible repeat (first | refine blk_drewN ?_ _ | refine blk_drew ?_ | refine blk_alloc ?_ _)); exact BK153.out⟩, ⟨by repeat (first | (with_reducible first | exact HB.out | apply below_alloc | apply pw_below_drewN | apply below_drew1 | refine below_set ?_ GE153.out) | exact HB.out)⟩⟩
                                  · rw [if_neg c67] at H
                                    have c67b0 : (((rd_T52 l0 (ji64)).f0) == 2) = false := beq_eq_false_iff_ne.mpr c67
                                    have c67b1 : (((rd_T52 l0 (ji64)).f0) != 2) = true := bne_iff_ne.mpr c67
                                    have H' := Aside0.mk H
                                    clear H
                                    have hcz69_0 : wc.cell? ⟨gb153, 0, none⟩ = some (.int .i64 ((rd_T52 l0 x4_1).f0)) := (blk_cell BK153.out 0).trans rfl
                                    have hcz69_1 : wc.cell? ⟨gb153, 1, none⟩ = some (.int .i64 ((rd_T52 l0 x4_1).f1)) := (blk_cell BK153.out 1).trans rfl
                                    have hfz69_0 := blk_frozen BK153.out 0
                                    have hfz69_1 := blk_frozen BK153.out 1
                                    have p156 : 0 ≤ ((ji64) : Int) := of_decide_eq_true (by first | (with_reducible assumption) | assumption)
                                    have q156 : (ji64) < (l0.length : Int) := of_decide_eq_true (by first | (with_reducible assumption) | assumption)
                                    obtain ⟨ad156, e156, hx156_0, hx156_1⟩ := at_T52 HR0.out (ji64) p156 q156
                                    obtain rfl : ad152 = ad156 := (by injection e156)
                                    replace hx156_0 := (HB.out.cell (World.block_lt_of_cell? w _ hx156_0)).trans hx156_0
                                    replace hx156_1 := (HB.out.cell (World.block_lt_of_cell? w _ hx156_1)).trans hx156_1
                                    replace p156 := eq_true p156
                                    replace q156 := eq_true q156
                                    have p157 : 0 ≤ ((ji64) : Int) := of_decide_eq_true (by first | (with_reducible assumption) | assumption)
                                    have q157 : (ji64) < (l0.length : Int) := of_decide_eq_true (by first | (with_reducible assumption) | assumption)
                                    obtain ⟨ad157, e157, hx157_0, hx157_1⟩ := at_T52 HR0.out (ji64) p157 q157
                                    obtain rfl : ad152 = ad157 := (by injection e157)
                                    replace hx157_0 := (HB.out.cell (World.block_lt_of_cell? w _ hx157_0)).trans hx157_0
                                    replace hx157_1 := (HB.out.cell (World.block_lt_of_cell? w _ hx157_1)).trans hx157_1
                                    replace p157 := eq_true p157
                                    replace q157 := eq_true q157
                                    go_wp2
                                    go_meet
                                    case rel => exact ⟨_, ((((rd_T52 l0 (ji64)).f0) != 3)), (by first | rfl | (simp; done) | (simp only [← hji64] <;> (first | rfl | simp)) | (simp [*]; done)), H', ⟨by have := HK1.out; have := HJ4.out; have := HJ46.out; have := HJ50.out; first | omega | exact Nat.le_refl _⟩, ⟨by (with_reducible repeat (first | refine blk_drewN ?_ _ | refine blk_drew ?_ | refine blk_alloc ?_ _)); exact BK153.out⟩, ⟨by repeat (first | (with_reducible first | exact HB.out | apply below_alloc | apply pw_below_drewN | apply below_drew1 | refine below_set ?_ GE153.out) | exact HB.out)⟩⟩
                              · rw [if_neg c61] at H
                                have c61b0 : (((rd_T52 l0 x4_1).f0) == 4) = false := beq_eq_false_iff_ne.mpr c61
                                have c61b1 : (((rd_T52 l0 x4_1).f0) != 4) = true := bne_iff_ne.mpr c61
                                (first | rw [c61b0] | rw [c61b3] | rw [c61b2] | (simp only [i64_w, i32_w]; rw [c61b0]) | skip)
                                have H' := Aside0.mk H
                                clear H
                                have hcz70_0 : wc.cell? ⟨gb153, 0, none⟩ = some (.int .i64 ((rd_T52 l0 x4_1).f0)) := (blk_cell BK153.out 0).trans rfl
                                have hcz70_1 : wc.cell? ⟨gb153, 1, none⟩ = some (.int .i64 ((rd_T52 l0 x4_1).f1)) := (blk_cell BK153.out 1).trans rfl
                                have hfz70_0 := blk_frozen BK153.out 0
                                have hfz70_1 := blk_frozen BK153.out 1
                                go_wp2
                                go_meet
                                case rel => exact ⟨_, (false), (by first | rfl | (simp; done) | (simp [*]; done)), H', ⟨by have := HK1.out; have := HJ4.out; have := HJ46.out; have := HJ50.out; first | omega | exact Nat.le_refl _⟩, ⟨by (with_reducible repeat (first | refine blk_drewN ?_ _ | refine blk_drew ?_ | refine blk_alloc ?_ _)); exact BK153.out⟩, ⟨by repeat (first | (with_reducible first | exact HB.out | apply below_alloc | apply pw_below_drewN | apply below_drew1 | refine below_set ?_ GE153.out) | exact HB.out)⟩⟩
                            case rest =>
                              clear HC60
                              try clear c1
                              try clear p1
                              try clear q1
                              try clear hx1
                              try clear c2
                              try clear c2b0
                              try clear c2b1
                              try clear p2
                              try clear c3
                              try clear c3b0
                              try clear c4
                              try clear c4b0
                              try clear c5
                              try clear c6
                              try clear p6
                              try clear c8
                              try clear c8b0
                              try clear c8b2
                              try clear c10
                              try clear c10b0
                              try clear c12
                              try clear c12b0
                              try clear c12b1
                              try clear c14
                              try clear c15
                              try clear c15b0
                              try clear c15b1
                              try clear p15
                              try clear q15
                              try clear hx15
                              try clear c16
                              try clear c16b0
                              try clear c18
                              try clear c18b0
                              try clear c20
                              try clear c20b0
                              try clear c21
                              try clear c21b0
                              try clear c24
                              try clear c25
                              try clear c25b0
                              try clear c26
                              try clear c26b0
                              try clear c31
                              try clear c31b0
                              try clear c31b1
                              try clear c32
                              try clear c32b0
                              try clear c34
                              try clear c34b0
                              try clear c36
                              try clear c36b0
                              try clear c37
                              try clear c37b0
                              try clear c41
                              try clear c41b0
                              try clear c42
                              try clear c42b0
                              try clear c46
                              try clear c48
                              try clear c48b0
                              try clear c48b1
                              try clear c48b2
                              try clear c50
                              try clear c52
                              try clear c52b0
                              try clear c52b1
                              try clear c52b2
                              try clear c53
                              try clear c53b0
                              try clear c55
                              try clear c55b0
                              try clear c59
                              try clear c61
                              try clear c61b0
                              try clear c61b1
                              try clear c61b2
                              try clear c62
                              try clear c62b0
                              try clear c62b1
                              try clear p64
                              try clear c65
                              try clear c65b0
                              try clear c66
                              try clear c66b0
                              try clear c67
                              try clear c67b0
                              try clear c67b1
                              try clear hcz11_0
                              try clear hcz11_1
                              try clear hcz17_0
                              try clear hcz17_1
                              try clear hcz19_0
                              try clear hcz19_1
                              try clear hcz22_0
                              try clear hcz22_1
                              try clear hcz23_0
                              try clear hcz23_1
                              try clear hcz24_0
                              try clear hcz24_1
                              try clear hcz27_0
                              try clear hcz27_1
                              try clear hcz28_0
                              try clear hcz28_1
                              try clear hcz29_0
                              try clear hcz29_1
                              try clear hcz30_0
                              try clear hcz30_1
                              try clear hcz33_0
                              try clear hcz33_1
                              try clear hcz35_0
                              try clear hcz35_1
                              try clear hcz38_0
                              try clear hcz38_1
                              try clear hcz39_0
                              try clear hcz39_1
                              try clear hcz40_0
                              try clear hcz40_1
                              try clear hcz43_0
                              try clear hcz43_1
                              try clear hcz44_0
                              try clear hcz44_1
                              try clear hcz45_0
                              try clear hcz45_1
                              try clear hcz49_0
                              try clear hcz49_1
                              try clear hcz56_0
                              try clear hcz56_1
                              try clear hcz57_0
                              try clear hcz57_1
                              try clear hcz58_0
                              try clear hcz58_1
                              try clear hcz63_0
                              try clear hcz63_1
                              try clear hcz68_0
                              try clear hcz68_1
                              try clear hcz69_0
                              try clear hcz69_1
                              try clear hcz70_0
                              try clear hcz70_1
                              try clear hcz7_0
                              try clear hcz7_1
                              try clear hcz9_0
                              try clear hcz9_1
                              try clear hfz11_0
                              try clear hfz11_1
                              try clear hfz17_0
                              try clear hfz17_1
                              try clear hfz19_0
                              try clear hfz19_1
                              try clear hfz22_0
                              try clear hfz22_1
                              try clear hfz23_0
                              try clear hfz23_1
                              try clear hfz24_0
                              try clear hfz24_1
                              try clear hfz27_0
                              try clear hfz27_1
                              try clear hfz28_0
                              try clear hfz28_1
                              try clear hfz29_0
                              try clear hfz29_1
                              try clear hfz30_0
                              try clear hfz30_1
                              try clear hfz33_0
                              try clear hfz33_1
                              try clear hfz35_0
                              try clear hfz35_1
                              try clear hfz38_0
                              try clear hfz38_1
                              try clear hfz39_0
                              try clear hfz39_1
                              try clear hfz40_0
                              try clear hfz40_1
                              try clear hfz43_0
                              try clear hfz43_1
                              try clear hfz44_0
                              try clear hfz44_1
                              try clear hfz45_0
                              try clear hfz45_1
                              try clear hfz49_0
                              try clear hfz49_1
                              try clear hfz56_0
                              try clear hfz56_1
                              try clear hfz57_0
                              try clear hfz57_1
                              try clear hfz58_0
                              try clear hfz58_1
                              try clear hfz63_0
                              try clear hfz63_1
                              try clear hfz68_0
                              try clear hfz68_1
                              try clear hfz69_0
                              try clear hfz69_1
                              try clear hfz70_0
                              try clear hfz70_1
                              try clear hfz7_0
                              try clear hfz7_1
                              try clear hfz9_0
                              try clear hfz9_1
                              try clear hx152_0
                              try clear hx152_1
                              try clear hx155_0
                              try clear hx155_1
                              try clear hx156_0
                              try clear hx156_1
                              try clear hx157_0
                              try clear hx157_1
                              try clear p1
                              try clear p15
                              try clear p152
                              try clear p155
                              try clear p156
                              try clear p157
                              try clear p2
                              try clear p6
                              try clear q1
                              try clear q15
                              try clear q152
                              try clear q155
                              try clear q156
                              try clear q157
                              obtain ⟨kq, x122_59, rfl, HA, HJ59, BK153, HB⟩ := hcut
                              cases kq with
                              | zero => exact absurd HA.out (by simp [clewref15_Right.j4])
                              | succ kj59 =>
                                have H := HA.out
                                clear HA
                                simp only [clewref15_Right.j4] at H
                                by_cases c71 : x122_59 = true
                                · subst c71
                                  have H1 : (some false) = some r := by rw [if_pos rfl] at H; exact H
                                  clear H
                                  have H := H1
                                  clear H1
                                  obtain rfl := Option.some.inj H
                                  go_wp2
                                  go_ret
                                  exact ⟨by first | rfl | (simp [errW_none, errW_some] <;> rfl) | (simp [*, errW_none, errW_some] <;> rfl), by repeat (first | (with_reducible first | exact HB.out | apply below_alloc | apply pw_below_drewN | apply below_drew1 | refine below_set ?_ GE153.out) | exact HB.out)⟩
                                · replace c71 := Bool.eq_false_iff.mpr c71
                                  subst c71
                                  have H1 : (if ((rd_T52 l0 x4_1).f0) = 4 then (clewref15_Right.l0 kj59 l0 (wrap64 (x3_1 + 1)) (wrap64 (x4_1 + 1))) else (clewref15_Right.l0 kj59 l0 x3_1 (wrap64 (x4_1 + 1)))) = some r := by rw [if_neg (show ¬ (false = true) by decide)] at H; exact H
                                  clear H
                                  have H := H1
                                  clear H1
                                  by_cases c72 : ((rd_T52 l0 x4_1).f0) = 4
                                  · rw [if_pos c72] at H
                                    have c72b0 : (((rd_T52 l0 x4_1).f0) == 4) = true := beq_iff_eq.mpr c72
                                    have c72b1 : (((rd_T52 l0 x4_1).f0) != 4) = false := bne_eq_false_iff_eq.mpr c72
                                    clear c72
                                    have H' := Aside0.mk H
                                    clear H
                                    have hcz73_0 : wc.cell? ⟨gb153, 0, none⟩ = some (.int .i64 ((rd_T52 l0 x4_1).f0)) := (blk_cell BK153.out 0).trans rfl
                                    have hcz73_1 : wc.cell? ⟨gb153, 1, none⟩ = some (.int .i64 ((rd_T52 l0 x4_1).f1)) := (blk_cell BK153.out 1).trans rfl
                                    have hfz73_0 := blk_frozen BK153.out 0
                                    have hfz73_1 := blk_frozen BK153.out 1
                                    go_wp2
                                    go_roundg kj59
                                    case measure => have := HK1.out; have := HJ4.out; have := HJ46.out; have := HJ50.out; have := HJ59.out; omega
                                    case rel => exact ⟨(wrap64 (x3_1 + 1)), (wrap64 (x4_1 + 1)), (by first | rfl | (simp; done) | (simp [*]; done)), (by first | rfl | (simp; done) | (simp [*]; done)), H', ⟨by have := HK1.out; have := HJ4.out; have := HJ46.out; have := HJ50.out; have := HJ59.out; omega⟩, ⟨by repeat (first | (with_reducible first | exact HB.out | apply below_alloc | apply pw_below_drewN | apply below_drew1 | refine below_set ?_ GE153.out) | exact HB.out)⟩⟩
                                  · rw [if_neg c72] at H
                                    have c72b0 : (((rd_T52 l0 x4_1).f0) == 4) = false := beq_eq_false_iff_ne.mpr c72
                                    have c72b1 : (((rd_T52 l0 x4_1).f0) != 4) = true := bne_iff_ne.mpr c72
                                    have H' := Aside0.mk H
                                    clear H
                                    have hcz74_0 : wc.cell? ⟨gb153, 0, none⟩ = some (.int .i64 ((rd_T52 l0 x4_1).f0)) := (blk_cell BK153.out 0).trans rfl
                                    have hcz74_1 : wc.cell? ⟨gb153, 1, none⟩ = some (.int .i64 ((rd_T52 l0 x4_1).f1)) := (blk_cell BK153.out 1).trans rfl
                                    have hfz74_0 := blk_frozen BK153.out 0
                                    have hfz74_1 := blk_frozen BK153.out 1
                                    go_wp2
                                    go_roundg kj59
                                    case measure => have := HK1.out; have := HJ4.out; have := HJ46.out; have := HJ50.out; have := HJ59.out; omega
                                    case rel => exact ⟨(x3_1), (wrap64 (x4_1 + 1)), (by first | rfl | (simp; done) | (simp [*]; done)), (by first | rfl | (simp; done) | (simp [*]; done)), H', ⟨by have := HK1.out; have := HJ4.out; have := HJ46.out; have := HJ50.out; have := HJ59.out; omega⟩, ⟨by repeat (first | (with_reducible first | exact HB.out | apply below_alloc | apply pw_below_drewN | apply below_drew1 | refine below_set ?_ GE153.out) | exact HB.out)⟩⟩
        · rw [if_neg c3] at H
          have c3b0 : decide (x4_1 < (l0.length : Int)) = false := decide_eq_false c3
          clear c3
          obtain rfl := Option.some.inj H
          go_wp2
          go_ret
          exact ⟨by first | rfl | (simp [errW_none, errW_some] <;> rfl) | (simp [*, errW_none, errW_some] <;> rfl), by repeat (first | (with_reducible first | exact HB.out | apply below_alloc | apply pw_below_drewN | apply below_drew1) | exact HB.out)⟩

end Go.Proofs.YtamalmopbncibaaDoor.PK
