/- With. -/
import Derived.Test.YtcgcoblecpbgbaaDoorCGet
import Derived.Laws.ResultCell
import Derived.Laws.Tables
import Derived.Laws.CopyOwn
namespace Go.Proofs.YtcgcoblecpbgbaaDoor.CP
open Go.RowKit Go.Proofs.YtcgcoblecpbgbaaDoorW.PrintWords Go.Proofs.YtcgcoblecpbgbaaDoorW.PrintLast Go.Proofs.YtcgcoblecpbgbaaDoorW.PrintMore
attribute [local go_sem] max2_int min2_int max_two min_two max_three min_three max_four min_four
set_option linter.unusedVariables false
set_option linter.unusedSimpArgs false
theorem capsC_set_bool (b : List Bool) (p : List Int) (i : Nat) (x : Bool) (h : i < b.length) : (capsC b p).set i (.bool x) = capsC (b.set i x) p := by
  unfold capsC
  rw [List.set_append_left _ _ (by simpa using h), List.map_set]
theorem capsC_set_int (b : List Bool) (p : List Int) (hb : b.length = 9) (i : Nat) (x : Int) : (capsC b p).set (9 + i) (.int .i64 x) = capsC b (p.set i x) := by
  unfold capsC
  rw [List.set_append_right _ _ (by simp; omega), List.length_map, hb, Nat.add_sub_cancel_left, List.map_set]
theorem capsC_one (b : List Bool) (p : List Int) : (capsC b p).toArray.all (·.oneCell') = true := by
  rw [List.all_toArray]
  unfold capsC
  rw [List.all_append, List.all_map, List.all_map]
  simp [Value.oneCell', Function.comp_def]
/-- A Caps lies in a block. -/
def Lies (w : World) (g : Nat) (t : TypeId) (b : List Bool) (p : List Int) : Prop := w.heap[g]? = some (.cells (capsC b p).toArray t (0, 0)) ∧ b.length = 9 ∧ p.length = 18
theorem Lies.at {w : World} {g : Nat} {t : TypeId} {b : List Bool} {p : List Int} (h : Lies w g t b p) : At w g (capsC b p) := by
  intro j v hj
  rw [cell_of_row _ _ j _ t (0, 0) h.1]
  simpa using hj
theorem Lies.load {w : World} {g : Nat} {b : List Bool} {p : List Int} (h : Lies w g 26 b p) : (loadVar 26 ⟨g, 0, none⟩).run Tryd.prog w = .ok (.agg (capsC b p).toArray) w := load_caps h.at h.2.1 h.2.2
theorem Lies.load8 {w : World} {g : Nat} {b : List Bool} {p : List Int} (h : Lies w g 28 b p) : (loadVar 28 ⟨g, 0, none⟩).run Tryd.prog w = .ok (.agg (capsC b p).toArray) w := load_caps8 h.at h.2.1 h.2.2
theorem Lies.store {w : World} {g : Nat} {t : TypeId} {b c : List Bool} {p q : List Int} (h : Lies w g t b p) (ht : t = 26 ∨ t = 28) (hc : c.length = 9) (hq : q.length = 18) :
    (storeVar t ⟨g, 0, none⟩ (.agg (capsC c q).toArray)).run Tryd.prog w = .ok () (w.setRow g (capsC c q).toArray) ∧ Lies (w.setRow g (capsC c q).toArray) g t c q := by
  obtain ⟨h1, h2, h3⟩ := h
  refine ⟨run_storeVar_row w g t t _ _ h1 ?_ ?_ (capsC_one c q), setRow_heap w g _ _ t (0, 0) h1, hc, hq⟩
  · rcases ht with rfl | rfl
    · rw [size26]; simp [capsC_length, hc, hq]
    · rw [size28]; simp [capsC_length, hc, hq]
  · simp [capsC_length, h2, h3, hc, hq]
theorem Lies.far {w w' : World} {g : Nat} {t : TypeId} {b : List Bool} {p : List Int} (h : Lies w g t b p) (he : w'.heap[g]? = w.heap[g]?) : Lies w' g t b p := ⟨he.trans h.1, h.2.1, h.2.2⟩
theorem Lies.set_bool {w : World} {g : Nat} {t : TypeId} {b : List Bool} {p : List Int} (h : Lies w g t b p) (i : Nat) (x : Bool) (hi : i < 9) : Lies (w.setCell ⟨g, i, none⟩ (.bool x)) g t (b.set i x) p := by
  obtain ⟨h1, h2, h3⟩ := h
  refine ⟨?_, by simpa using h2, h3⟩
  rw [setCell_eq_setRow w g i _ t (0, 0) _ h1, setRow_heap w g _ _ t (0, 0) h1]
  rw [List.setIfInBounds_toArray, capsC_set_bool b p i x (by omega)]
theorem Lies.set_int {w : World} {g : Nat} {t : TypeId} {b : List Bool} {p : List Int} (h : Lies w g t b p) (i : Nat) (x : Int) (hi : i < 18) : Lies (w.setCell ⟨g, 9 + i, none⟩ (.int .i64 x)) g t b (p.set i x) := by
  obtain ⟨h1, h2, h3⟩ := h
  refine ⟨?_, h2, by simpa using h3⟩
  rw [setCell_eq_setRow w g (9 + i) _ t (0, 0) _ h1, setRow_heap w g _ _ t (0, 0) h1]
  rw [List.setIfInBounds_toArray, capsC_set_int b p h2 i x]
theorem Lies.set_int1 {w : World} {g : Nat} {t : TypeId} {b : List Bool} {p : List Int} (h : Lies w g t b p) (i : Nat) (x : Int) (hi : i + 1 < 18) : Lies (w.setCell ⟨g, 9 + i + 1, none⟩ (.int .i64 x)) g t b (p.set (i + 1) x) := h.set_int (i + 1) x hi
theorem Lies.cellB {w : World} {g : Nat} {t : TypeId} {b : List Bool} {p : List Int} (h : Lies w g t b p) (i : Nat) (hi : i < 9) : w.cell? ⟨g, i, none⟩ = some (.bool (b.getD i false)) ∧ w.frozen? ⟨g, i, none⟩ = false :=
  ⟨load_bool h.at i (by rw [h.2.1]; exact hi), by simp [World.frozen?, h.1]⟩
theorem Lies.cellI {w : World} {g : Nat} {t : TypeId} {b : List Bool} {p : List Int} (h : Lies w g t b p) (i : Nat) (hi : i < 18) : w.cell? ⟨g, 9 + i, none⟩ = some (.int .i64 (p.getD i 0)) ∧ w.frozen? ⟨g, 9 + i, none⟩ = false :=
  ⟨load_at h.at h.2.1 i (by rw [h.2.2]; exact hi), by simp [World.frozen?, h.1]⟩
theorem Lies.cellI1 {w : World} {g : Nat} {t : TypeId} {b : List Bool} {p : List Int} (h : Lies w g t b p) (i : Nat) (hi : i + 1 < 18) : w.cell? ⟨g, 9 + i + 1, none⟩ = some (.int .i64 (p.getD (i + 1) 0)) ∧ w.frozen? ⟨g, 9 + i + 1, none⟩ = false := h.cellI (i + 1) hi
theorem lies_new (w : World) (t : TypeId) (b : List Bool) (p : List Int) (hb : b.length = 9) (hp : p.length = 18) : Lies (w.alloc (.cells (capsC b p).toArray t)) w.heap.size t b p := ⟨heap_alloc_last w _, hb, hp⟩
theorem results_caps {fn : Func} {p u : Tmp} {t : TypeId} (h : fn.results = #[.cell p t, .tmp u]) (ht : t = 26 ∨ t = 28) (tmps : Array Value) (w : World) (g : Nat) (b : List Bool) (q : List Int)
    (hp : tmps.getD p undef = .pointer (some ⟨g, 0, none⟩)) (hl : Lies w g t b q) : (results fn tmps).run Tryd.prog w = .ok (.tuple #[.agg (capsC b q).toArray, tmps.getD u undef]) w := by
  have hld : (loadVar t ⟨g, 0, none⟩).run Tryd.prog w = .ok (.agg (capsC b q).toArray) w := by
    rcases ht with rfl | rfl
    · exact hl.load
    · exact hl.load8
  rw [results_cell_tmp h, hp]
  simp [asAddr, hld]
def zero18 : List Int := [0, 0, 0, 0, 0, 0, 0, 0, 0, 0, 0, 0, 0, 0, 0, 0, 0, 0]
abbrev zeroV : Value := .agg #[.bool false, .bool false, .bool false, .bool false, .bool false, .bool false, .bool false, .bool false, .bool false, .int .i64 0, .int .i64 0, .int .i64 0, .int .i64 0, .int .i64 0, .int .i64 0, .int .i64 0, .int .i64 0, .int .i64 0, .int .i64 0, .int .i64 0, .int .i64 0, .int .i64 0, .int .i64 0, .int .i64 0, .int .i64 0, .int .i64 0, .int .i64 0]
abbrev zeroA : Array Value := #[.bool false, .bool false, .bool false, .bool false, .bool false, .bool false, .bool false, .bool false, .bool false, .int .i64 0, .int .i64 0, .int .i64 0, .int .i64 0, .int .i64 0, .int .i64 0, .int .i64 0, .int .i64 0, .int .i64 0, .int .i64 0, .int .i64 0, .int .i64 0, .int .i64 0, .int .i64 0, .int .i64 0, .int .i64 0, .int .i64 0, .int .i64 0]
def riseB (f t : Int) : Bool := decide (0 ≤ f) && (decide (f ≤ t) && decide (t ≤ 10000))
def withOk (g f t : Int) : Bool := decide (1 ≤ g) && (decide (g ≤ 9) && riseB f t)
def withB (b : List Bool) (g f t : Int) : List Bool := if withOk g f t = true then b.set (g.toNat - 1) true else zero9
def withP (p : List Int) (g f t : Int) : List Int := if withOk g f t = true then (p.set ((g.toNat - 1) * 2) f).set ((g.toNat - 1) * 2 + 1) t else zero18
def withE (g f t : Int) : Int := if withOk g f t = true then 0 else 1
theorem rises_eq (f t : Int) : caps_rises.f f t = some (riseB f t) := by
  unfold caps_rises.f riseB
  by_cases c1 : f ≥ 0
  · rw [if_pos c1]
    by_cases c2 : f ≤ t
    · rw [if_pos c2, decide_eq_true (show 0 ≤ f from c1), decide_eq_true c2]
      rfl
    · rw [if_neg c2, decide_eq_false c2]
      simp
  · rw [if_neg c1, decide_eq_false (show ¬ 0 ≤ f from c1)]
    rfl
theorem may_eq (f t : Int) : clewref10_may.f f t = some (riseB f t) := rises_eq f t
theorem with_start {w w1 : World} {t : TypeId} {b : List Bool} {p : List Int} (hb : b.length = 9) (hp : p.length = 18)
    (h : Below ((w.alloc (.cells (capsC b p).toArray t)).alloc (.cells (capsC zero9 zero18).toArray t)).heap.size ((w.alloc (.cells (capsC b p).toArray t)).alloc (.cells (capsC zero9 zero18).toArray t)) w1) :
    Lies w1 w.heap.size t b p ∧ Lies w1 (w.heap.size + 1) t zero9 zero18 ∧ Below w.heap.size w w1 := by
  have hs : ((w.alloc (.cells (capsC b p).toArray t)).alloc (.cells (capsC zero9 zero18).toArray t)).heap.size = w.heap.size + 2 := by simp
  have l4 := lies_new w t b p hb hp
  refine ⟨?_, ?_, (((Below.refl _ _).alloc (Nat.le_refl _) _).alloc (by simp) _).trans (h.mono (by omega))⟩
  · refine l4.far ?_
    rw [h.block _ (by omega), heap_alloc_old _ _ (by simp)]
  · refine ⟨?_, rfl, rfl⟩
    rw [h.block _ (by omega)]
    exact heap_alloc2_new w _ _
theorem store4 {w : World} {g o : Nat} {v : Bool} {x : Value} (h : w.cell? ⟨g, o, none⟩ = some x) (hf : w.frozen? ⟨g, o, none⟩ = false) : (storeVar 4 ⟨g, o, none⟩ (.bool v)).run Tryd.prog w = .ok () (w.setCell ⟨g, o, none⟩ (.bool v)) := by
  have e0 : (⟨g, o, none⟩ : Addr).add 0 = ⟨g, o, none⟩ := Addr.add_mid g o 0
  simp [storeVar, Value.cells, storeCells, Sem.run_bind, run_store_bool, stored, e0, h, hf]
theorem store23 {w : World} {g o : Nat} {x y : Int} {u v : Value} (h : w.cell? ⟨g, o, none⟩ = some u) (hf : w.frozen? ⟨g, o, none⟩ = false) (h1 : w.cell? ⟨g, o + 1, none⟩ = some v) (hf1 : w.frozen? ⟨g, o + 1, none⟩ = false) :
    (storeVar 23 ⟨g, o, none⟩ (.agg #[.int .i64 x, .int .i64 y])).run Tryd.prog w = .ok () ((w.setCell ⟨g, o, none⟩ (.int .i64 x)).setCell ⟨g, o + 1, none⟩ (.int .i64 y)) := by
  have e : (⟨g, o, none⟩ : Addr).add 1 = ⟨g, o + 1, none⟩ := Addr.add_mid g o 1
  have e0 : (⟨g, o, none⟩ : Addr).add 0 = ⟨g, o, none⟩ := Addr.add_mid g o 0
  have hne : (w.setCell ⟨g, o, none⟩ (.int .i64 x)).cell? ⟨g, o + 1, none⟩ = some v := by
    rw [World.cell?_setCell_other (h := by intro q; injection q with _ q2; omega)]
    exact h1
  have hfz : (w.setCell ⟨g, o, none⟩ (.int .i64 x)).frozen? ⟨g, o + 1, none⟩ = false := by
    rw [World.frozen?_setCell]
    exact hf1
  simp [storeVar, Value.cells, storeCells, run_store_int, stored, e, e0, h, hf, hne, hfz, Sem.run_bind]
attribute [-go_sem] loadVar storeVar
attribute [local go_sem] load3 load4 store4 store23
set_option maxHeartbeats 2000000 in
set_option maxRecDepth 100000 in
theorem caps_With.calls (b : List Bool) (p : List Int) (g f t : Int) (w : World) (hb : b.length = 9) (hp : p.length = 18) :
    Calls Tryd.prog 9 #[.agg (capsC b p).toArray, .int .i64 g, .int .i64 f, .int .i64 t] w fun e w' => e = .returned (.tuple #[.agg (capsC (withB b g f t) (withP p g f t)).toArray, .int .i64 (withE g f t)]) ∧ Below w.heap.size w w' := by
  by_cases c1 : 1 ≤ g
  · have d1 : decide (g < 1) = false := decide_eq_false (by omega)
    by_cases c2 : g ≤ 9
    · have d2 : decide (9 < g) = false := decide_eq_false (by omega)
      have d3 : decide (g > 9) = false := decide_eq_false (by omega)
      cases hr : riseB f t with
      | true =>
        go_enter Tryd.func9, Tryd.ntmps9
        go_wp2_with fail
        refine (caps_rises.calls f t true _ (by rw [rises_eq, hr])).mono ?_
        rintro e w1 ⟨rfl, hd⟩
        obtain ⟨l4, l8, hB⟩ := with_start hb hp hd.below
        have hi : g.toNat - 1 < 9 := by omega
        have s1 := l4.cellB _ hi
        have l4a := l4.set_bool (g.toNat - 1) true hi
        have s2 := l4a.cellI ((g.toNat - 1) * 2) (by omega)
        have s3 := l4a.cellI1 ((g.toNat - 1) * 2) (by omega)
        have l4b := l4a.set_int ((g.toNat - 1) * 2) f (by omega)
        have l4c := l4b.set_int1 ((g.toNat - 1) * 2) t (by omega)
        have l8c : Lies _ (w.heap.size + 1) 26 zero9 zero18 := ((l8.far (heap_setCell_other w1 ⟨w.heap.size, g.toNat - 1, none⟩ _ (.bool true) (by simp))).far (heap_setCell_other _ ⟨w.heap.size, 9 + (g.toNat - 1) * 2, none⟩ _ (.int .i64 f) (by simp))).far (heap_setCell_other _ ⟨w.heap.size, 9 + (g.toNat - 1) * 2 + 1, none⟩ _ (.int .i64 t) (by simp))
        have hld := l4c.load
        obtain ⟨hst, l8d⟩ := l8c.store (.inl rfl) l4c.2.1 l4c.2.2
        obtain ⟨s1a, s1b⟩ := s1
        obtain ⟨s2a, s2b⟩ := s2
        obtain ⟨s3a, s3b⟩ := s3
        have L8 := Aside0.mk l8d
        have HB := Aside0.mk hB
        clear l4 l8 l4a l4b l4c l8c l8d hB hd hb hp
        go_wp2_with fail
        refine bodyPost_ret (results_caps rfl (.inl rfl) _ _ (w.heap.size + 1) _ _ rfl L8.out) rfl ?_
        have ho : withOk g f t = true := by unfold withOk; rw [hr, decide_eq_true c1, decide_eq_true c2]; rfl
        refine ⟨?_, ?_⟩
        · unfold withB withP withE
          rw [if_pos ho, if_pos ho, if_pos ho]
          rfl
        · exact below_setRow (((HB.out.setCell (by exact Nat.le_refl _) _).setCell (by exact Nat.le_refl _) _).setCell (by exact Nat.le_refl _) _) (by omega) _
      | false =>
        have ho : ¬ withOk g f t = true := by unfold withOk; rw [hr]; simp
        go_enter Tryd.func9, Tryd.ntmps9
        go_wp2_with fail
        refine (caps_rises.calls f t false _ (by rw [rises_eq, hr])).mono ?_
        rintro e w1 ⟨rfl, hd⟩
        obtain ⟨_, l8, hB⟩ := with_start hb hp hd.below
        obtain ⟨hst, l8d⟩ := l8.store (c := zero9) (q := zero18) (.inl rfl) rfl rfl
        have L8 := Aside0.mk l8d
        have HB := Aside0.mk hB
        clear l8 l8d hB hd hb hp
        replace hst : (storeVar 26 ⟨w.heap.size + 1, 0, none⟩ zeroV).run Tryd.prog w1 = .ok () (w1.setRow (w.heap.size + 1) (capsC zero9 zero18).toArray) := hst
        go_wp2_with fail
        refine bodyPost_ret (results_caps rfl (.inl rfl) _ _ (w.heap.size + 1) _ _ rfl L8.out) rfl ?_
        refine ⟨?_, ?_⟩
        · unfold withB withP withE
          rw [if_neg ho, if_neg ho, if_neg ho]
          rfl
        · exact below_setRow HB.out (by omega) _
    · have d2 : decide (9 < g) = true := decide_eq_true (by omega)
      have d3 : decide (g > 9) = true := decide_eq_true (by omega)
      have ho : ¬ withOk g f t = true := by unfold withOk; rw [decide_eq_false (show ¬ g ≤ 9 from c2)]; simp
      obtain ⟨_, l8, hB⟩ := with_start (w := w) (t := 26) hb hp (Below.refl _ _)
      obtain ⟨hst, l8d⟩ := l8.store (c := zero9) (q := zero18) (.inl rfl) rfl rfl
      have L8 := Aside0.mk l8d
      have HB := Aside0.mk hB
      clear l8 l8d hB hb hp
      replace hst : (storeVar 26 ⟨w.heap.size + 1, 0, none⟩ zeroV).run Tryd.prog ((w.alloc (.cells (capsC b p).toArray 26)).alloc (.cells zeroA 26)) = .ok () (((w.alloc (.cells (capsC b p).toArray 26)).alloc (.cells zeroA 26)).setRow (w.heap.size + 1) (capsC zero9 zero18).toArray) := hst
      go_enter Tryd.func9, Tryd.ntmps9
      go_wp2_with fail
      refine bodyPost_ret (results_caps rfl (.inl rfl) _ _ (w.heap.size + 1) _ _ rfl L8.out) rfl ?_
      refine ⟨?_, ?_⟩
      · unfold withB withP withE
        rw [if_neg ho, if_neg ho, if_neg ho]
        rfl
      · exact below_setRow HB.out (by omega) _
  · have d1 : decide (g < 1) = true := decide_eq_true (by omega)
    have ho : ¬ withOk g f t = true := by unfold withOk; rw [decide_eq_false (show ¬ 1 ≤ g from c1)]; simp
    obtain ⟨_, l8, hB⟩ := with_start (w := w) (t := 26) hb hp (Below.refl _ _)
    obtain ⟨hst, l8d⟩ := l8.store (c := zero9) (q := zero18) (.inl rfl) rfl rfl
    have L8 := Aside0.mk l8d
    have HB := Aside0.mk hB
    clear l8 l8d hB hb hp
    replace hst : (storeVar 26 ⟨w.heap.size + 1, 0, none⟩ zeroV).run Tryd.prog ((w.alloc (.cells (capsC b p).toArray 26)).alloc (.cells zeroA 26)) = .ok () (((w.alloc (.cells (capsC b p).toArray 26)).alloc (.cells zeroA 26)).setRow (w.heap.size + 1) (capsC zero9 zero18).toArray) := hst
    go_enter Tryd.func9, Tryd.ntmps9
    go_wp2_with fail
    refine bodyPost_ret (results_caps rfl (.inl rfl) _ _ (w.heap.size + 1) _ _ rfl L8.out) rfl ?_
    refine ⟨?_, ?_⟩
    · unfold withB withP withE
      rw [if_neg ho, if_neg ho, if_neg ho]
      rfl
    · exact below_setRow HB.out (by omega) _
end Go.Proofs.YtcgcoblecpbgbaaDoor.CP
