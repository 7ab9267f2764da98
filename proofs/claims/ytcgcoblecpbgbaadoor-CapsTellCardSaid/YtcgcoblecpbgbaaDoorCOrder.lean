/- CapsOrder: the walk. -/
import Derived.Test.YtcgcoblecpbgbaaDoorCFixed
namespace Go.Proofs.YtcgcoblecpbgbaaDoor.CP
open Go.RowKit Go.Proofs.YtcgcoblecpbgbaaDoorW.PrintWords Go.Proofs.YtcgcoblecpbgbaaDoorW.PrintLast Go.Proofs.YtcgcoblecpbgbaaDoorW.PrintMore
attribute [local go_sem] max2_int min2_int max_two min_two max_three min_three max_four min_four
set_option linter.unusedVariables false
set_option linter.unusedSimpArgs false
theorem load5 {w : World} {a : Addr} {v : Value} (h : w.cell? a = some v) : (loadVar 5 a).run Tryd.prog w = .ok v w := by simp [loadVar, h]
theorem Wf.set {p : List Int} (h : Wf p) (i : Nat) {x : Int} (hx : (Lit.int .i64 x).wf = true) : Wf (p.set i x) := by
  intro y hy
  rcases List.mem_or_eq_of_mem_set hy with c | c
  · exact h y c
  · rw [c]; exact hx
theorem wf_small {x : Int} (h : 0 ≤ x) (h' : x ≤ 1000000) : (Lit.int .i64 x).wf = true := by
  simp only [Lit.wf, Bool.and_eq_true, decide_eq_true_eq]
  rw [show IntKind.i64.min = -9223372036854775808 from rfl, show IntKind.i64.max = 9223372036854775807 from rfl]
  omega
theorem wf_zero : Wf zero18 := by unfold Wf; decide
/-- A pair laid into a place. -/
def S2 (p : List Int) (i : Nat) (u v : Int) : List Int := (p.set (i * 2) u).set (i * 2 + 1) v
theorem S2_twice (p : List Int) (i : Nat) (a c b d : Int) : S2 (S2 p i a c) i b d = S2 p i b d := by
  unfold S2
  rw [List.set_comm (i := i * 2 + 1) (j := i * 2) _ _ (by omega), List.set_set, List.set_set]
theorem S2_comm (p : List Int) (i j : Nat) (h : i ≠ j) (a c b d : Int) : S2 (S2 p i a c) j b d = S2 (S2 p j b d) i a c := by
  unfold S2
  rw [List.set_comm (i := i * 2 + 1) (j := j * 2) _ _ (by omega), List.set_comm (i := i * 2) (j := j * 2) _ _ (by omega), List.set_comm (i := i * 2 + 1) (j := j * 2 + 1) _ _ (by omega), List.set_comm (i := i * 2) (j := j * 2 + 1) _ _ (by omega)]
theorem S2_length (p : List Int) (i : Nat) (a c : Int) : (S2 p i a c).length = p.length := by simp [S2]
theorem S2_wf {p : List Int} (h : Wf p) (i : Nat) {a c : Int} (ha : (Lit.int .i64 a).wf = true) (hc : (Lit.int .i64 c).wf = true) : Wf (S2 p i a c) := (h.set _ ha).set _ hc
theorem with_ok {g f t : Int} (h1 : 1 ≤ g) (h2 : g ≤ 9) (h3 : 0 ≤ f) (h4 : f ≤ t) (h5 : t ≤ 10000) : withOk g f t = true := by
  unfold withOk riseB
  rw [decide_eq_true h1, decide_eq_true h2, decide_eq_true h3, decide_eq_true h4, decide_eq_true h5]
  rfl
theorem with_eq {g f t : Int} (b : List Bool) (p : List Int) (h : withOk g f t = true) : withB b g f t = b.set (g.toNat - 1) true ∧ withP p g f t = S2 p (g.toNat - 1) f t ∧ withE g f t = 0 := by
  unfold withB withP withE S2
  rw [if_pos h, if_pos h, if_pos h]
  exact ⟨rfl, rfl, rfl⟩
theorem set_ne {l : List Bool} {j : Nat} (h : l.getD j false = false) (hj : j < l.length) : l.set j true ≠ l := by
  intro e
  have := congrArg (fun l => l.getD j false) e
  simp only [h] at this
  rw [List.getD_eq_getElem?_getD, List.getElem?_set_self hj] at this
  simp at this
theorem zero9_get (i : Nat) : zero9.getD i false = false := by
  rcases Nat.lt_or_ge i 9 with h | h
  · have : ∀ m : Fin 9, zero9.getD m.1 false = false := by decide
    exact this ⟨i, h⟩
  · rw [List.getD_eq_getElem?_getD, List.getElem?_eq_none (by exact h)]
    rfl
theorem get_other {i j : Nat} (h : i ≠ j) : (zero9.set i true).getD j false = false := by
  rw [List.getD_eq_getElem?_getD, List.getElem?_set_ne h, ← List.getD_eq_getElem?_getD]
  exact zero9_get j
attribute [-go_sem] loadVar storeVar
attribute [local go_sem] load3 load4 load5 store4 store23
set_option maxHeartbeats 4000000 in
set_option maxRecDepth 100000 in
theorem law_Order.calls (x0 x1 x2 x3 x4 x5 : Nat) (w : World) (hT : TabW w) (h0 : x0 < 256) (h1 : x1 < 256) (h2 : x2 < 256) (h3 : x3 < 256) (h4 : x4 < 256) (h5 : x5 < 256) :
    Calls Tryd.prog 6 #[.agg #[.int .u8 x0, .int .u8 x1, .int .u8 x2, .int .u8 x3, .int .u8 x4, .int .u8 x5]] w fun e w' => e = .returned (.bool true) ∧ Below w.heap.size w w' := by
  have HT := Aside0.mk hT
  clear hT
  go_enter Tryd.func6, Tryd.ntmps6
  go_wp2_with fail
  go_quiet (fail)
  go_wp2_with fail
  go_quiet (fail)
  go_wp2_with fail
  go_quiet (fail)
  go_wp2_with fail
  generalize hW0 : World.drewN (World.alloc w _) _ = W0
  have hB0 : Below w.heap.size w W0 := by rw [← hW0]; exact pw_below_drewN ((Below.refl w.heap.size w).alloc (Nat.le_refl _) _) _
  clear hW0
  have HT0 := Aside0.mk (HT.out.below hB0)
  have HB0 := Aside0.mk hB0
  clear hB0 HT
  obtain ⟨g, hg⟩ : ∃ g : Int, g = 1 + (x0 : Int) % 9 := ⟨_, rfl⟩
  obtain ⟨h, hh⟩ : ∃ h : Int, h = 1 + (x3 : Int) % 9 := ⟨_, rfl⟩
  obtain ⟨a, ha⟩ : ∃ a : Int, a = (x1 : Int) := ⟨_, rfl⟩
  obtain ⟨b, hb⟩ : ∃ b : Int, b = (x4 : Int) := ⟨_, rfl⟩
  obtain ⟨c, hc⟩ : ∃ c : Int, c = a + (x2 : Int) := ⟨_, rfl⟩
  obtain ⟨d, hd⟩ : ∃ d : Int, d = b + (x5 : Int) := ⟨_, rfl⟩
  rw [← hg, ← hh, ← ha, ← hb, ← hc, ← hd]
  have og := with_ok (g := g) (f := a) (t := c) (by omega) (by omega) (by omega) (by omega) (by omega)
  have oh := with_ok (g := h) (f := b) (t := d) (by omega) (by omega) (by omega) (by omega) (by omega)
  have wa := wf_small (x := a) (by omega) (by omega)
  have wb := wf_small (x := b) (by omega) (by omega)
  have wc := wf_small (x := c) (by omega) (by omega)
  have wd := wf_small (x := d) (by omega) (by omega)
  have hg9 : g.toNat - 1 < 9 := by omega
  have hh9 : h.toNat - 1 < 9 := by omega
  have hgh : g.toNat - 1 = h.toNat - 1 ↔ g = h := by omega
  generalize hi : g.toNat - 1 = i at *
  generalize hj : h.toNat - 1 = j at *
  have e1 := with_eq zero9 zero18 og
  have e2 := with_eq (zero9.set i true) (S2 zero18 i a c) oh
  have e3 := with_eq zero9 zero18 oh
  have e4 := with_eq (zero9.set j true) (S2 zero18 j b d) og
  rw [hi] at e1 e4
  rw [hj] at e2 e3
  have E1 := Aside0.mk e1
  have E2 := Aside0.mk e2
  have E3 := Aside0.mk e3
  have E4 := Aside0.mk e4
  have f1 : Wf (S2 zero18 i a c) := S2_wf wf_zero i wa wc
  have f2 : Wf (S2 (S2 zero18 i a c) j b d) := S2_wf f1 j wb wd
  have f3 : Wf (S2 zero18 j b d) := S2_wf wf_zero j wb wd
  have f4 : Wf (S2 (S2 zero18 j b d) i a c) := S2_wf f3 i wa wc
  clear hg hh ha hb hc hd og oh wa wb wc wd e1 e2 e3 e4 h0 h1 h2 h3 h4 h5 hi hj
  obtain ⟨X1, hX1⟩ : ∃ X : List Bool × List Int, X = (zero9.set i true, S2 zero18 i a c) := ⟨_, rfl⟩
  obtain ⟨X2, hX2⟩ : ∃ X : List Bool × List Int, X = ((zero9.set i true).set j true, S2 (S2 zero18 i a c) j b d) := ⟨_, rfl⟩
  obtain ⟨X3, hX3⟩ : ∃ X : List Bool × List Int, X = (zero9.set j true, S2 zero18 j b d) := ⟨_, rfl⟩
  obtain ⟨X4, hX4⟩ : ∃ X : List Bool × List Int, X = ((zero9.set j true).set i true, S2 (S2 zero18 j b d) i a c) := ⟨_, rfl⟩
  have n1 : X1.1.length = 9 ∧ X1.2.length = 18 := by rw [hX1]; simp [S2_length, zero9, zero18]
  have n2 : X2.1.length = 9 ∧ X2.2.length = 18 := by rw [hX2]; simp [S2_length, zero9, zero18]
  have n3 : X3.1.length = 9 ∧ X3.2.length = 18 := by rw [hX3]; simp [S2_length, zero9, zero18]
  have n4 : X4.1.length = 9 ∧ X4.2.length = 18 := by rw [hX4]; simp [S2_length, zero9, zero18]
  have K1 : Aside0 (withB zero9 g a c = X1.1 ∧ withP zero18 g a c = X1.2 ∧ withE g a c = 0) := ⟨by rw [hX1]; exact E1.out⟩
  have K2 : Aside0 (withB X1.1 h b d = X2.1 ∧ withP X1.2 h b d = X2.2 ∧ withE h b d = 0) := ⟨by rw [hX1, hX2]; exact E2.out⟩
  have K3 : Aside0 (withB zero9 h b d = X3.1 ∧ withP zero18 h b d = X3.2 ∧ withE h b d = 0) := ⟨by rw [hX3]; exact E3.out⟩
  have K4 : Aside0 (withB X3.1 g a c = X4.1 ∧ withP X3.2 g a c = X4.2 ∧ withE g a c = 0) := ⟨by rw [hX3, hX4]; exact E4.out⟩
  have q (X Y : List Bool × List Int) (hX : X.1.length = 9 ∧ X.2.length = 18) (hY : Y.1.length = 9 ∧ Y.2.length = 18) (fX : Wf X.2) (fY : Wf Y.2) (w : World) : (Op.equalIn 10000 26 (.agg (capsC X.1 X.2).toArray) (.agg (capsC Y.1 Y.2).toArray)).run Tryd.prog w = .ok (decide (X = Y)) w := by
    rw [eq_val w 26 (.inl rfl) X.1 Y.1 X.2 Y.2 hX.1 hY.1 hX.2 hY.2 fX fY]
    congr 1
    rw [Bool.eq_iff_iff]
    simp [Prod.ext_iff]
  have F1 : Wf X1.2 := by rw [hX1]; exact f1
  have F2 : Wf X2.2 := by rw [hX2]; exact f2
  have F3 : Wf X3.2 := by rw [hX3]; exact f3
  have F4 : Wf X4.2 := by rw [hX4]; exact f4
  have r23 : X2 = X3 ↔ i = j := by
    rw [hX2, hX3]
    constructor
    · intro e
      rcases Nat.lt_trichotomy i j with c | c | c
      all_goals first
        | exact c
        | (exfalso
           have e2 := (Prod.mk.inj e).1
           rw [List.set_comm _ _ (by omega)] at e2
           exact set_ne (get_other (by omega)) (by simp [zero9]; omega) e2)
    · intro e
      subst e
      rw [List.set_set, S2_twice]
  have r41 : X4 = X1 ↔ i = j := by
    rw [hX4, hX1]
    constructor
    · intro e
      rcases Nat.lt_trichotomy i j with c | c | c
      all_goals first
        | exact c
        | (exfalso
           have e2 := (Prod.mk.inj e).1
           rw [List.set_comm _ _ (by omega)] at e2
           exact set_ne (get_other (by omega)) (by simp [zero9]; omega) e2)
    · intro e
      subst e
      rw [List.set_set, S2_twice]
  have r24 : i ≠ j → X2 = X4 := by
    intro e
    rw [hX2, hX4, List.set_comm _ _ e, S2_comm _ _ _ e]
  have r21 : i ≠ j → X2 ≠ X1 := by
    intro e e2
    rw [hX2, hX1] at e2
    exact set_ne (get_other e) (by simp [zero9]; omega) (Prod.mk.inj e2).1
  have s1 := fun w => store_fresh w X1.1 X1.2 n1.1 n1.2
  have s2 := fun w => store_fresh w X2.1 X2.2 n2.1 n2.2
  have s3 := fun w => store_fresh w X3.1 X3.2 n3.1 n3.2
  have s4 := fun w => store_fresh w X4.1 X4.2 n4.1 n4.2
  have q23 := q X2 X3 n2 n3 F2 F3
  have q41 := q X4 X1 n4 n1 F4 F1
  have q24 := q X2 X4 n2 n4 F2 F4
  have q21 := q X2 X1 n2 n1 F2 F1
  have N1 := Aside0.mk n1
  have N2 := Aside0.mk n2
  have N3 := Aside0.mk n3
  have N4 := Aside0.mk n4
  clear q F1 F2 F3 F4 f1 f2 f3 f4 hX1 hX2 hX3 hX4 E1 E2 E3 E4 n1 n2 n3 n4 hg9 hh9
  refine (with_at (b := zero9) (p := zero18) K1.out _ rfl rfl).mono ?_
  rintro e w1 ⟨rfl, hb⟩
  have Lw_1 := Aside0.mk (lies_new w1 26 X1.1 X1.2 N1.out.1 N1.out.2)
  have HT1 := Aside0.mk ((HT0.out.below hb).below ((Below.refl w1.heap.size w1).alloc (Nat.le_refl _) (.cells (capsC X1.1 X1.2).toArray 26)))
  have HB1 := Aside0.mk ((HB0.out.trans (hb.mono HB0.out.size)).alloc (HB0.out.trans (hb.mono HB0.out.size)).size (.cells (capsC X1.1 X1.2).toArray 26))
  clear hb  HT0 HB0
  have hld := Lw_1.out.load
  go_wp2_with fail
  clear hld
  refine (with_at K2.out _ N1.out.1 N1.out.2).mono ?_
  rintro e w2 ⟨rfl, hb⟩
  have Lw_2 := Aside0.mk ((Lw_1.out.on hb).alloc (.cells (capsC X2.1 X2.2).toArray 26))
  have Lx_2 := Aside0.mk (lies_new w2 26 X2.1 X2.2 N2.out.1 N2.out.2)
  have HT2 := Aside0.mk ((HT1.out.below hb).below ((Below.refl w2.heap.size w2).alloc (Nat.le_refl _) (.cells (capsC X2.1 X2.2).toArray 26)))
  have HB2 := Aside0.mk ((HB1.out.trans (hb.mono HB1.out.size)).alloc (HB1.out.trans (hb.mono HB1.out.size)).size (.cells (capsC X2.1 X2.2).toArray 26))
  clear hb Lw_1 HT1 HB1
  go_wp2_with fail
  refine (with_at (b := zero9) (p := zero18) K3.out _ rfl rfl).mono ?_
  rintro e w3 ⟨rfl, hb⟩
  have Lw_3 := Aside0.mk ((Lw_2.out.on hb).alloc (.cells (capsC X3.1 X3.2).toArray 26))
  have Lx_3 := Aside0.mk ((Lx_2.out.on hb).alloc (.cells (capsC X3.1 X3.2).toArray 26))
  have Ly_3 := Aside0.mk (lies_new w3 26 X3.1 X3.2 N3.out.1 N3.out.2)
  have HT3 := Aside0.mk ((HT2.out.below hb).below ((Below.refl w3.heap.size w3).alloc (Nat.le_refl _) (.cells (capsC X3.1 X3.2).toArray 26)))
  have HB3 := Aside0.mk ((HB2.out.trans (hb.mono HB2.out.size)).alloc (HB2.out.trans (hb.mono HB2.out.size)).size (.cells (capsC X3.1 X3.2).toArray 26))
  clear hb Lw_2 Lx_2 HT2 HB2
  have hld := Ly_3.out.load
  go_wp2_with fail
  clear hld
  refine (with_at K4.out _ N3.out.1 N3.out.2).mono ?_
  rintro e w4 ⟨rfl, hb⟩
  have Lw_4 := Aside0.mk ((Lw_3.out.on hb).alloc (.cells (capsC X4.1 X4.2).toArray 26))
  have Lx_4 := Aside0.mk ((Lx_3.out.on hb).alloc (.cells (capsC X4.1 X4.2).toArray 26))
  have Ly_4 := Aside0.mk ((Ly_3.out.on hb).alloc (.cells (capsC X4.1 X4.2).toArray 26))
  have Lz_4 := Aside0.mk (lies_new w4 26 X4.1 X4.2 N4.out.1 N4.out.2)
  have HT4 := Aside0.mk ((HT3.out.below hb).below ((Below.refl w4.heap.size w4).alloc (Nat.le_refl _) (.cells (capsC X4.1 X4.2).toArray 26)))
  have HB4 := Aside0.mk ((HB3.out.trans (hb.mono HB3.out.size)).alloc (HB3.out.trans (hb.mono HB3.out.size)).size (.cells (capsC X4.1 X4.2).toArray 26))
  clear hb Lw_3 Lx_3 Ly_3 HT3 HB3
  have l1 := Lw_4.out.load
  have l2 := Lx_4.out.load
  have l3 := Ly_4.out.load
  have l4 := Lz_4.out.load
  by_cases hij : i = j
  · have hgh' : (g == h) = true := beq_iff_eq.2 (hgh.1 hij)
    have hgh2 : decide (g = h) = true := decide_eq_true (hgh.1 hij)
    rw [decide_eq_true (r23.2 hij)] at q23
    rw [decide_eq_true (r41.2 hij)] at q41
    clear hij r23 r41 r24 r21 hgh q24 q21
    go_wp2_with fail
    refine (law_fixed.calls _ HT4.out).mono ?_
    rintro e w5 ⟨rfl, hb⟩
    go_wp2
    go_ret
    exact ⟨rfl, HB4.out.trans (hb.mono HB4.out.size)⟩
  · have hgh' : (g == h) = false := beq_eq_false_iff_ne.2 (fun e => hij (hgh.2 e))
    have hgh2 : decide (g = h) = false := decide_eq_false (fun e => hij (hgh.2 e))
    rw [decide_eq_true (r24 hij)] at q24
    rw [decide_eq_false (r21 hij)] at q21
    rw [decide_eq_false (fun e => hij (r23.1 e))] at q23
    clear hij r23 r41 r24 r21 hgh q41
    go_wp2_with fail
    refine (law_fixed.calls _ HT4.out).mono ?_
    rintro e w5 ⟨rfl, hb⟩
    go_wp2
    go_ret
    exact ⟨rfl, HB4.out.trans (hb.mono HB4.out.size)⟩
end Go.Proofs.YtcgcoblecpbgbaaDoor.CP
