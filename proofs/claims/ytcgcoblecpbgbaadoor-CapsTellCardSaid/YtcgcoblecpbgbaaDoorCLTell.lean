/- CapsTell: the walk. -/
import Derived.Test.YtcgcoblecpbgbaaDoorCRefShow
import Derived.Test.YtcgcoblecpbgbaaDoorCRefAgain
import Derived.Test.YtcgcoblecpbgbaaDoorCLShows
import Derived.Test.YtcgcoblecpbgbaaDoorCRefWith
import Derived.Deep.RegionHeld3
namespace Go.Proofs.YtcgcoblecpbgbaaDoor.CP
open Go.RowKit Go.Proofs.YtcgcoblecpbgbaaDoorW.PrintWords Go.Proofs.YtcgcoblecpbgbaaDoorW.PrintLast Go.Proofs.YtcgcoblecpbgbaaDoorW.PrintMore
attribute [local go_sem] max2_int min2_int max_two min_two max_three min_three max_four min_four
set_option linter.unusedVariables false
set_option linter.unusedSimpArgs false
def Four (w : World) (g : Nat) (x0 x1 x2 x3 : Int) : Prop := w.heap[g]? = some (.cells #[.int .i64 x0, .int .i64 x1, .int .i64 x2, .int .i64 x3] 27 (0, 0))
theorem Four.on {w w' : World} {g : Nat} {x0 x1 x2 x3 : Int} (h : Four w g x0 x1 x2 x3) (hb : Below w.heap.size w w') : Four w' g x0 x1 x2 x3 := by
  have hlt : g < w.heap.size := (Array.getElem?_eq_some_iff.1 h).1
  unfold Four
  rw [hb.block g hlt]
  exact h
theorem Four.alloc {w : World} {g : Nat} {x0 x1 x2 x3 : Int} (h : Four w g x0 x1 x2 x3) (o : Obj) : Four (w.alloc o) g x0 x1 x2 x3 := by
  have hlt : g < w.heap.size := (Array.getElem?_eq_some_iff.1 h).1
  unfold Four
  rw [heap_alloc_old _ _ hlt]
  exact h
theorem Four.cells {w : World} {g : Nat} {x0 x1 x2 x3 : Int} (h : Four w g x0 x1 x2 x3) : w.cell? ⟨g, 0, none⟩ = some (.int .i64 x0) ∧ w.cell? ⟨g, 1, none⟩ = some (.int .i64 x1) ∧ w.cell? ⟨g, 2, none⟩ = some (.int .i64 x2) ∧ w.cell? ⟨g, 3, none⟩ = some (.int .i64 x3) := by
  refine ⟨?_, ?_, ?_, ?_⟩
  · rw [cell_of_row _ _ 0 _ 27 (0, 0) h]; rfl
  · rw [cell_of_row _ _ 1 _ 27 (0, 0) h]; rfl
  · rw [cell_of_row _ _ 2 _ 27 (0, 0) h]; rfl
  · rw [cell_of_row _ _ 3 _ 27 (0, 0) h]; rfl
theorem store_fresh8 (w : World) (b : List Bool) (p : List Int) (hb : b.length = 9) (hp : p.length = 18) : (storeVar 28 ⟨w.heap.size, 0, none⟩ (.agg (capsC b p).toArray)).run Tryd.prog (w.alloc (.cells zeroA 28)) = .ok () (w.alloc (.cells (capsC b p).toArray 28)) := by
  have l : Lies (w.alloc (.cells zeroA 28)) w.heap.size 28 zero9 zero18 := lies_new w 28 zero9 zero18 rfl rfl
  rw [(l.store (.inr rfl) hb hp).1, World.setRow_alloc_new]
theorem withP_wf {p : List Int} (h : Wf p) (g f t : Int) : Wf (withP p g f t) := by
  unfold withP
  split
  · next c =>
    have hr : riseB f t = true := by
      unfold withOk at c
      simp only [Bool.and_eq_true] at c
      exact c.2.2
    have hr := riseB_range hr
    exact S2_wf h (g.toNat - 1) (wf_small (by omega) (by omega)) (wf_small (by omega) (by omega))
  · exact wf_zero
theorem with_len {b : List Bool} {p : List Int} (hb : b.length = 9) (hp : p.length = 18) (g f t : Int) : (withB b g f t).length = 9 ∧ (withP p g f t).length = 18 := by
  unfold withB withP
  split
  · exact ⟨by rw [List.length_set]; exact hb, by rw [List.length_set, List.length_set]; exact hp⟩
  · exact ⟨rfl, rfl⟩
def St (w0 w : World) (b : List Bool) (p : List Int) (c : List Bool) (q : List Int) (x0 x1 x2 x3 : Int) (gc gn gr ga gb : Nat) : Prop :=
  Below w0.heap.size w0 w ∧ TabW w ∧ Lies w gc 26 b p ∧ Four w gn x0 x1 x2 x3 ∧ Lies w gr 28 b p ∧ Lies w ga 26 c q ∧ Lies w gb 28 c q
theorem St.on {w0 w w' : World} {b c : List Bool} {p q : List Int} {x0 x1 x2 x3 : Int} {gc gn gr ga gb : Nat} (hb : Below w.heap.size w w') (h : St w0 w b p c q x0 x1 x2 x3 gc gn gr ga gb) : St w0 w' b p c q x0 x1 x2 x3 gc gn gr ga gb :=
  ⟨h.1.trans (hb.mono h.1.size), h.2.1.below hb, h.2.2.1.on hb, h.2.2.2.1.on hb, h.2.2.2.2.1.on hb, h.2.2.2.2.2.1.on hb, h.2.2.2.2.2.2.on hb⟩
abbrev StC (w0 w : World) (b : List Bool) (p : List Int) (c : List Bool) (q : List Int) (x0 x1 x2 x3 : Int) (gc gn gr ga gb : Nat) : Prop :=
  (loadVar 26 ⟨gc, 0, none⟩).run Tryd.prog w = .ok (.agg (capsC b p).toArray) w ∧ (loadVar 28 ⟨gr, 0, none⟩).run Tryd.prog w = .ok (.agg (capsC b p).toArray) w ∧ (loadVar 26 ⟨ga, 0, none⟩).run Tryd.prog w = .ok (.agg (capsC c q).toArray) w ∧ (loadVar 28 ⟨gb, 0, none⟩).run Tryd.prog w = .ok (.agg (capsC c q).toArray) w ∧ w.cell? ⟨gn, 0, none⟩ = some (.int .i64 x0) ∧ St w0 w b p c q x0 x1 x2 x3 gc gn gr ga gb
theorem St.c {w0 w : World} {b c : List Bool} {p q : List Int} {x0 x1 x2 x3 : Int} {gc gn gr ga gb : Nat} (h : St w0 w b p c q x0 x1 x2 x3 gc gn gr ga gb) : StC w0 w b p c q x0 x1 x2 x3 gc gn gr ga gb :=
  ⟨h.2.2.1.load, h.2.2.2.2.1.load8, h.2.2.2.2.2.1.load, h.2.2.2.2.2.2.load8, h.2.2.2.1.cells.1, h⟩
theorem St.tab {w0 w : World} {b c : List Bool} {p q : List Int} {x0 x1 x2 x3 : Int} {gc gn gr ga gb : Nat} (h : St w0 w b p c q x0 x1 x2 x3 gc gn gr ga gb) : TabW w := h.2.1
theorem fin6 {A B C D E F : Prop} (h : A ∧ B ∧ C ∧ D ∧ E ∧ F) : F := h.2.2.2.2.2
theorem StC.on {w0 w w' : World} {b c : List Bool} {p q : List Int} {x0 x1 x2 x3 : Int} {gc gn gr ga gb : Nat} (hb : Below w.heap.size w w') (h : StC w0 w b p c q x0 x1 x2 x3 gc gn gr ga gb) : StC w0 w' b p c q x0 x1 x2 x3 gc gn gr ga gb := (h.2.2.2.2.2.on hb).c
theorem St.drew {w0 w : World} {b c : List Bool} {p q : List Int} {x0 x1 x2 x3 : Int} {gc gn gr ga gb : Nat} (h : St w0 w b p c q x0 x1 x2 x3 gc gn gr ga gb) : StC w0 w.drew b p c q x0 x1 x2 x3 gc gn gr ga gb := (h.on (below_drew1 (Below.refl _ _))).c
theorem refwith_at {b c : List Bool} {p q : List Int} {g f t e : Int} (h : withB b g f t = c ∧ withP p g f t = q ∧ withE g f t = e) (w : World) (hb : b.length = 9) (hp : p.length = 18) :
    Calls Tryd.prog 10 #[.agg (capsC b p).toArray, .int .i64 g, .int .i64 f, .int .i64 t] w fun x w' => x = .returned (.tuple #[.agg (capsC c q).toArray, .int .i64 e]) ∧ Below w.heap.size w w' := by
  have := ref_With.calls b p g f t w hb hp
  rw [h.1, h.2.1, h.2.2] at this
  exact this
theorem refagain_at {b : List Bool} {p : List Int} {s : ByteArray} {g a n : Int} {fold r : Bool} (h : againB b p s g a fold = (n, r)) (w : World) (hb : b.length = 9) (hp : p.length = 18) (hs : s.size ≤ 140737488355328) :
    Calls Tryd.prog 18 #[.agg (capsC b p).toArray, .string s, .int .i64 g, .int .i64 a, .bool fold] w fun e w' => e = .returned (.tuple #[.int .i64 n, .bool r]) ∧ Below w.heap.size w w' := by
  have := ref_Again.calls b p s g a fold w hb hp hs
  rw [h] at this
  exact this
attribute [-go_sem] loadVar storeVar
attribute [local go_sem] load3 load4 load5 store4 store23
set_option maxHeartbeats 4000000 in
set_option maxRecDepth 100000 in
theorem law_Tell.calls (b : List Bool) (p : List Int) (x0 x1 x2 x3 : Int) (s : ByteArray) (w : World) (hb : b.length = 9) (hp : p.length = 18) (hw : Wf p) (hT : TabW w) (hx : -9223372036854775808 ≤ x0 ∧ x0 ≤ 9223372036854775807) :
    Calls Tryd.prog 3 #[.agg (capsC b p).toArray, .agg #[.int .i64 x0, .int .i64 x1, .int .i64 x2, .int .i64 x3], .string s] w fun e w' => e = .returned (.bool true) ∧ Below w.heap.size w w' := by
  have HW := Aside0.mk hw
  have N0 := Aside0.mk (And.intro hb hp)
  have HB := Aside0.mk (((Below.refl w.heap.size w).alloc (Nat.le_refl _) (.cells (capsC b p).toArray 26)).alloc (by simp) (.cells #[.int .i64 x0, .int .i64 x1, .int .i64 x2, .int .i64 x3] 27))
  have HT := Aside0.mk (hT.below HB.out)
  have LC := Aside0.mk ((lies_new w 26 b p hb hp).alloc (.cells #[.int .i64 x0, .int .i64 x1, .int .i64 x2, .int .i64 x3] 27))
  have LN : Aside0 (Four ((w.alloc (.cells (capsC b p).toArray 26)).alloc (.cells #[.int .i64 x0, .int .i64 x1, .int .i64 x2, .int .i64 x3] 27)) (w.heap.size + 1) x0 x1 x2 x3) := ⟨heap_alloc2_new w _ _⟩
  obtain ⟨m, hm⟩ : ∃ m : Int, (if 60 < (s.size : Int) then 60 else (s.size : Int)) = m := ⟨_, rfl⟩
  have hm0 : 0 ≤ m := by rw [← hm]; split <;> omega
  have hm1 : m ≤ 60 := by rw [← hm]; split <;> omega
  have hm2 : m ≤ (s.size : Int) := by rw [← hm]; split <;> omega
  obtain ⟨u, hu⟩ : ∃ u : ByteArray, s.extract 0 m.toNat = u := ⟨_, rfl⟩
  have HU : Aside0 (u.size ≤ 60) := ⟨by rw [← hu, ByteArray.size_extract]; omega⟩
  obtain ⟨C, hC⟩ : ∃ C : List Bool × List Int, C = (withB b x0 x1 x2, withP p x0 x1 x2) := ⟨_, rfl⟩
  obtain ⟨E, hE⟩ : ∃ E : Int, withE x0 x1 x2 = E := ⟨_, rfl⟩
  have K1 : Aside0 (withB b x0 x1 x2 = C.1 ∧ withP p x0 x1 x2 = C.2 ∧ withE x0 x1 x2 = E) := ⟨by rw [hC]; exact ⟨rfl, rfl, hE⟩⟩
  have N1 : Aside0 (C.1.length = 9 ∧ C.2.length = 18) := ⟨by rw [hC]; exact with_len hb hp x0 x1 x2⟩
  have W1 : Aside0 (Wf C.2) := ⟨by rw [hC]; exact withP_wf hw x0 x1 x2⟩
  have qe : ∀ w, (Op.equalIn 10000 28 (.agg (capsC C.1 C.2).toArray) (.agg (capsC C.1 C.2).toArray)).run Tryd.prog w = .ok true w := fun w => by rw [eq_val w 28 (.inr rfl) _ _ _ _ N1.out.1 N1.out.1 N1.out.2 N1.out.2 W1.out W1.out, decide_eq_true ⟨rfl, rfl⟩]
  have s1 := fun w => store_fresh w C.1 C.2 N1.out.1 N1.out.2
  have s2 := fun w => store_fresh8 w C.1 C.2 N1.out.1 N1.out.2
  have s3 := fun w => store_fresh8 w b p hb hp
  obtain ⟨⟨f, t, is⟩, hG⟩ : ∃ x, getB b p x0 = x := ⟨_, rfl⟩
  have HG := Aside0.mk hG
  obtain ⟨⟨T, has⟩, hX⟩ : ∃ x, textB b p u x0 = x := ⟨_, rfl⟩
  have HX := Aside0.mk hX
  obtain ⟨⟨i, one⟩, hI⟩ : ∃ x, againB b p u x0 x3 (decide (x1 > x2)) = x := ⟨_, rfl⟩
  have HI := Aside0.mk hI
  clear hC hE hG hX hI hb hp hw hT
  go_enter Tryd.func3, Tryd.ntmps3
  have hld := LC.out.load
  have hn := LN.out.cells
  obtain ⟨hn0, hn1, hn2, hn3⟩ := hn
  go_wp2_with fail
  generalize (w.alloc (.cells (capsC b p).toArray 26)).alloc (.cells #[.int .i64 x0, .int .i64 x1, .int .i64 x2, .int .i64 x3] 27) = W0 at HB HT LC LN hld hn0 hn1 hn2 hn3 ⊢
  refine (law_Ref.calls b p _ N0.out.1 N0.out.2).mono ?_
  rintro e w1 ⟨rfl, hb⟩
  have hB' := HB.out.trans (hb.mono HB.out.size)
  have hT' := HT.out.below hb
  have hLC' := LC.out.on hb
  have hLN' := LN.out.on hb
  have hB2 := hB'.alloc hB'.size (.cells (capsC b p).toArray 28)
  have hT2 := hT'.below ((Below.refl w1.heap.size w1).alloc (Nat.le_refl _) (.cells (capsC b p).toArray 28))
  have hLC2 := hLC'.alloc (.cells (capsC b p).toArray 28)
  have hLN2 := hLN'.alloc (.cells (capsC b p).toArray 28)
  have hLR2 := lies_new w1 28 b p N0.out.1 N0.out.2
  clear HB HT LC LN hb hld hn0 hn1 hn2 hn3
  have HB_ := Aside0.mk hB2
  have HT_ := Aside0.mk hT2
  have HLC_ := Aside0.mk hLC2
  have HLN_ := Aside0.mk hLN2
  have HLR_ := Aside0.mk hLR2
  clear hB' hT' hLC' hLN' hB2 hT2 hLC2 hLN2 hLR2
  obtain ⟨W1, hW⟩ : ∃ W, w1.alloc (.cells (capsC b p).toArray 28) = W := ⟨_, rfl⟩
  rw [hW] at HB_ HT_ HLC_ HLN_ HLR_
  have HB := HB_
  have HT := HT_
  have LC := HLC_
  have LN := HLN_
  have LR := HLR_
  clear HB_ HT_ HLC_ HLN_ HLR_
  have hld := LC.out.load
  obtain ⟨hn0, hn1, hn2, hn3⟩ := LN.out.cells
  have hlr := LR.out.load8
  have hS := hW
  go_wp2_with fail
  refine (with_at K1.out _ N0.out.1 N0.out.2).mono ?_
  rintro e w2 ⟨rfl, hb⟩
  have hB' := HB.out.trans (hb.mono HB.out.size)
  have hT' := HT.out.below hb
  have hLC' := LC.out.on hb
  have hLN' := LN.out.on hb
  have hLR' := LR.out.on hb
  have hB2 := hB'.alloc hB'.size (.cells (capsC C.1 C.2).toArray 26)
  have hT2 := hT'.below ((Below.refl w2.heap.size w2).alloc (Nat.le_refl _) (.cells (capsC C.1 C.2).toArray 26))
  have hLC2 := hLC'.alloc (.cells (capsC C.1 C.2).toArray 26)
  have hLN2 := hLN'.alloc (.cells (capsC C.1 C.2).toArray 26)
  have hLR2 := hLR'.alloc (.cells (capsC C.1 C.2).toArray 26)
  have hLA2 := lies_new w2 26 C.1 C.2 N1.out.1 N1.out.2
  clear HB HT LC LN LR hlr hb hld hn0 hn1 hn2 hn3
  have HB_ := Aside0.mk hB2
  have HT_ := Aside0.mk hT2
  have HLC_ := Aside0.mk hLC2
  have HLN_ := Aside0.mk hLN2
  have HLR_ := Aside0.mk hLR2
  have HLA_ := Aside0.mk hLA2
  clear hB' hT' hLC' hLN' hLR' hB2 hT2 hLC2 hLN2 hLR2 hLA2
  obtain ⟨W2, hW⟩ : ∃ W, w2.alloc (.cells (capsC C.1 C.2).toArray 26) = W := ⟨_, rfl⟩
  rw [hW] at HB_ HT_ HLC_ HLN_ HLR_ HLA_
  have HB := HB_
  have HT := HT_
  have LC := HLC_
  have LN := HLN_
  have LR := HLR_
  have LA := HLA_
  clear HB_ HT_ HLC_ HLN_ HLR_ HLA_
  have hld := LC.out.load
  obtain ⟨hn0, hn1, hn2, hn3⟩ := LN.out.cells
  have hlr := LR.out.load8
  have hla := LA.out.load
  have hS := hW
  go_wp2_with fail
  refine (refwith_at K1.out _ N0.out.1 N0.out.2).mono ?_
  rintro e w3 ⟨rfl, hb⟩
  have hB' := HB.out.trans (hb.mono HB.out.size)
  have hT' := HT.out.below hb
  have hLC' := LC.out.on hb
  have hLN' := LN.out.on hb
  have hLR' := LR.out.on hb
  have hLA' := LA.out.on hb
  have hB2 := hB'.alloc hB'.size (.cells (capsC C.1 C.2).toArray 28)
  have hT2 := hT'.below ((Below.refl w3.heap.size w3).alloc (Nat.le_refl _) (.cells (capsC C.1 C.2).toArray 28))
  have hLC2 := hLC'.alloc (.cells (capsC C.1 C.2).toArray 28)
  have hLN2 := hLN'.alloc (.cells (capsC C.1 C.2).toArray 28)
  have hLR2 := hLR'.alloc (.cells (capsC C.1 C.2).toArray 28)
  have hLA2 := hLA'.alloc (.cells (capsC C.1 C.2).toArray 28)
  have hLB2 := lies_new w3 28 C.1 C.2 N1.out.1 N1.out.2
  clear HB HT LC LN LR LA hlr hla hb hld hn0 hn1 hn2 hn3
  have HB_ := Aside0.mk hB2
  have HT_ := Aside0.mk hT2
  have HLC_ := Aside0.mk hLC2
  have HLN_ := Aside0.mk hLN2
  have HLR_ := Aside0.mk hLR2
  have HLA_ := Aside0.mk hLA2
  have HLB_ := Aside0.mk hLB2
  clear hB' hT' hLC' hLN' hLR' hLA' hB2 hT2 hLC2 hLN2 hLR2 hLA2 hLB2
  obtain ⟨W3, hW⟩ : ∃ W, w3.alloc (.cells (capsC C.1 C.2).toArray 28) = W := ⟨_, rfl⟩
  rw [hW] at HB_ HT_ HLC_ HLN_ HLR_ HLA_ HLB_
  have HB := HB_
  have HT := HT_
  have LC := HLC_
  have LN := HLN_
  have LR := HLR_
  have LA := HLA_
  have LB := HLB_
  clear HB_ HT_ HLC_ HLN_ HLR_ HLA_ HLB_
  have hld := LC.out.load
  obtain ⟨hn0, hn1, hn2, hn3⟩ := LN.out.cells
  have hlr := LR.out.load8
  have hla := LA.out.load
  have hlb := LB.out.load8
  have hS := hW
  go_wp2_with fail
  refine (caps_Get.at HG.out _ N0.out.1 N0.out.2).mono ?_
  rintro e w4 ⟨rfl, hb⟩
  have hB' := HB.out.trans (hb.mono HB.out.size)
  have hT' := HT.out.below hb
  have hLC' := LC.out.on hb
  have hLN' := LN.out.on hb
  have hLR' := LR.out.on hb
  have hLA' := LA.out.on hb
  have hLB' := LB.out.on hb
  clear HB HT LC LN LR LA LB hlr hla hlb hb hld hn0 hn1 hn2 hn3
  have HB_ := Aside0.mk hB'
  have HT_ := Aside0.mk hT'
  have HLC_ := Aside0.mk hLC'
  have HLN_ := Aside0.mk hLN'
  have HLR_ := Aside0.mk hLR'
  have HLA_ := Aside0.mk hLA'
  have HLB_ := Aside0.mk hLB'
  clear hB' hT' hLC' hLN' hLR' hLA' hLB'
  have HB := HB_
  have HT := HT_
  have LC := HLC_
  have LN := HLN_
  have LR := HLR_
  have LA := HLA_
  have LB := HLB_
  clear HB_ HT_ HLC_ HLN_ HLR_ HLA_ HLB_
  have hld := LC.out.load
  obtain ⟨hn0, hn1, hn2, hn3⟩ := LN.out.cells
  have hlr := LR.out.load8
  have hla := LA.out.load
  have hlb := LB.out.load8
  go_wp2_with fail
  refine (ref_Get.at HG.out _ N0.out.1 N0.out.2).mono ?_
  rintro e w5 ⟨rfl, hb⟩
  have hB' := HB.out.trans (hb.mono HB.out.size)
  have hT' := HT.out.below hb
  have hLC' := LC.out.on hb
  have hLN' := LN.out.on hb
  have hLR' := LR.out.on hb
  have hLA' := LA.out.on hb
  have hLB' := LB.out.on hb
  clear HB HT LC LN LR LA LB hlr hla hlb hb hld hn0 hn1 hn2 hn3
  have HB_ := Aside0.mk hB'
  have HT_ := Aside0.mk hT'
  have HLC_ := Aside0.mk hLC'
  have HLN_ := Aside0.mk hLN'
  have HLR_ := Aside0.mk hLR'
  have HLA_ := Aside0.mk hLA'
  have HLB_ := Aside0.mk hLB'
  clear hB' hT' hLC' hLN' hLR' hLA' hLB'
  have HB := HB_
  have HT := HT_
  have LC := HLC_
  have LN := HLN_
  have LR := HLR_
  have LA := HLA_
  have LB := HLB_
  clear HB_ HT_ HLC_ HLN_ HLR_ HLA_ HLB_
  have hld := LC.out.load
  obtain ⟨hn0, hn1, hn2, hn3⟩ := LN.out.cells
  have hlr := LR.out.load8
  have hla := LA.out.load
  have hlb := LB.out.load8
  go_wp2_with fail
  refine (caps_Text.at HX.out _ N0.out.1 N0.out.2 (by have := HU.out; omega)).mono ?_
  rintro e w6 ⟨rfl, hb⟩
  have hB' := HB.out.trans (hb.mono HB.out.size)
  have hT' := HT.out.below hb
  have hLC' := LC.out.on hb
  have hLN' := LN.out.on hb
  have hLR' := LR.out.on hb
  have hLA' := LA.out.on hb
  have hLB' := LB.out.on hb
  clear HB HT LC LN LR LA LB hlr hla hlb hb hld hn0 hn1 hn2 hn3
  have HB_ := Aside0.mk hB'
  have HT_ := Aside0.mk hT'
  have HLC_ := Aside0.mk hLC'
  have HLN_ := Aside0.mk hLN'
  have HLR_ := Aside0.mk hLR'
  have HLA_ := Aside0.mk hLA'
  have HLB_ := Aside0.mk hLB'
  clear hB' hT' hLC' hLN' hLR' hLA' hLB'
  have HB := HB_
  have HT := HT_
  have LC := HLC_
  have LN := HLN_
  have LR := HLR_
  have LA := HLA_
  have LB := HLB_
  clear HB_ HT_ HLC_ HLN_ HLR_ HLA_ HLB_
  have hld := LC.out.load
  obtain ⟨hn0, hn1, hn2, hn3⟩ := LN.out.cells
  have hlr := LR.out.load8
  have hla := LA.out.load
  have hlb := LB.out.load8
  go_wp2_with fail
  refine (ref_Text.at HX.out _ N0.out.1 N0.out.2 (by have := HU.out; omega)).mono ?_
  rintro e w7 ⟨rfl, hb⟩
  have hB' := HB.out.trans (hb.mono HB.out.size)
  have hT' := HT.out.below hb
  have hLC' := LC.out.on hb
  have hLN' := LN.out.on hb
  have hLR' := LR.out.on hb
  have hLA' := LA.out.on hb
  have hLB' := LB.out.on hb
  clear HB HT LC LN LR LA LB hlr hla hlb hb hld hn0 hn1 hn2 hn3
  have HB_ := Aside0.mk hB'
  have HT_ := Aside0.mk hT'
  have HLC_ := Aside0.mk hLC'
  have HLN_ := Aside0.mk hLN'
  have HLR_ := Aside0.mk hLR'
  have HLA_ := Aside0.mk hLA'
  have HLB_ := Aside0.mk hLB'
  clear hB' hT' hLC' hLN' hLR' hLA' hLB'
  have HB := HB_
  have HT := HT_
  have LC := HLC_
  have LN := HLN_
  have LR := HLR_
  have LA := HLA_
  have LB := HLB_
  clear HB_ HT_ HLC_ HLN_ HLR_ HLA_ HLB_
  have hld := LC.out.load
  obtain ⟨hn0, hn1, hn2, hn3⟩ := LN.out.cells
  have hlr := LR.out.load8
  have hla := LA.out.load
  have hlb := LB.out.load8
  go_wp2_with fail
  have HST : Aside0 (St w w7 b p C.1 C.2 x0 x1 x2 x3 (w.heap.size) (w.heap.size + 1) (w1.heap.size) (w2.heap.size) (w3.heap.size)) := ⟨HB.out, HT.out, LC.out, LN.out, LR.out, LA.out, LB.out⟩
  clear HB HT LC LN LR LA LB hld hn0 hn1 hn2 hn3 hlr hla hlb
  refine start_ (n := 45) (S := fun w' => (loadVar 26 ⟨w.heap.size, 0, none⟩).run Tryd.prog w' = .ok (.agg (capsC b p).toArray) w' ∧ (loadVar 28 ⟨w1.heap.size, 0, none⟩).run Tryd.prog w' = .ok (.agg (capsC b p).toArray) w' ∧ (loadVar 26 ⟨w2.heap.size, 0, none⟩).run Tryd.prog w' = .ok (.agg (capsC C.1 C.2).toArray) w' ∧ (loadVar 28 ⟨w3.heap.size, 0, none⟩).run Tryd.prog w' = .ok (.agg (capsC C.1 C.2).toArray) w' ∧ w'.cell? ⟨w.heap.size + 1, 0, none⟩ = some (.int .i64 x0) ∧ St w w' b p C.1 C.2 x0 x1 x2 x3 (w.heap.size) (w.heap.size + 1) (w1.heap.size) (w2.heap.size) (w3.heap.size)) (ds := []) #[false, false, false, false, false, false, false, false, false, false, false, false, false, false, false, false, false, false, false, false, false, false, false, false, false, false, false, false, false, false, false, false, false, false, false, false, false, false, false, false, false, false, false, false, false] (by kernel_rfl) rfl rfl ⟨HST.out.drew.1, HST.out.drew.2.1, HST.out.drew.2.2.1, HST.out.drew.2.2.2.1, HST.out.drew.2.2.2.2.1, HST.out.drew.2.2.2.2.2⟩ (fun hHeld => ?_)
  refine take_ (i := 0) (N := some 87) (v := ?_) (a' := ?_) #[true, false, false, false, false, false, false, false, false, false, false, false, false, false, false, false, false, false, false, false, false, false, false, false, false, false, false, false, false, false, false, false, false, false, false, false, false, false, false, false, false, false, false, false, false] rfl rfl (by kernel_rfl) (fun _ _ _ h => h) (Or.inl ⟨by rfl, ?_⟩) hHeld ?_ ?_
  rotate_left
  · rintro w' ⟨s0, s1, s2, s3, s4, s5⟩
    go_simp
    with_reducible rfl
  rotate_left
  · simp only [Act.put, List.setIfInBounds_toArray, List.set_cons_zero, List.set_cons_succ, i64_w, i32_w]
    rfl
  refine take_ (i := 2) (N := some 89) (v := ?_) (a' := ?_) #[true, false, true, false, false, false, false, false, false, false, false, false, false, false, false, false, false, false, false, false, false, false, false, false, false, false, false, false, false, false, false, false, false, false, false, false, false, false, false, false, false, false, false, false, false] rfl rfl (by kernel_rfl) (fun _ _ _ h => h) (Or.inl ⟨by rfl, ?_⟩) hHeld ?_ ?_
  rotate_left
  · rintro w' ⟨s0, s1, s2, s3, s4, s5⟩
    go_simp
    with_reducible rfl
  rotate_left
  · simp only [Act.put, List.setIfInBounds_toArray, List.set_cons_zero, List.set_cons_succ, i64_w, i32_w]
    rfl
  refine one_ (i := 1) (N := some 88) #[true, true, true, false, false, false, false, false, false, false, false, false, false, false, false, false, false, false, false, false, false, false, false, false, false, false, false, false, false, false, false, false, false, false, false, false, false, false, false, false, false, false, false, false, false] rfl rfl (by kernel_rfl) (by decide) (fun K hK => ?_)
  refine goes_ Tryd.func8 (by kernel_rfl) rfl #[.agg (capsC C.1 C.2).toArray] (by rfl) rfl rfl (by simp only [List.map_toArray, List.map_cons, List.map_nil]; rfl) ?_
  with_reducible refine (law_Ref.calls C.1 C.2 _ N1.out.1 N1.out.2).mono ?_
  rintro e w9 ⟨rfl, hb⟩
  refine ⟨_, rfl, ?_⟩
  refine hK.out _ _ ⟨(StC.on hb hHeld).1, (StC.on hb hHeld).2.1, (StC.on hb hHeld).2.2.1, (StC.on hb hHeld).2.2.2.1, (StC.on hb hHeld).2.2.2.2.1, (StC.on hb hHeld).2.2.2.2.2⟩ (fun hHeld => ?_)
  clear hK K
  refine norm_ (a' := ?_) ?_ ?_
  rotate_left
  · show Act.put _ (some 88) _ = _
    simp only [Act.put, List.setIfInBounds_toArray, List.set_cons_zero, List.set_cons_succ, i64_w, i32_w]
    rfl
  refine pure_ (i := 3) (N := some 90) (v := ?_) (a' := ?_) #[true, true, true, true, false, false, false, false, false, false, false, false, false, false, false, false, false, false, false, false, false, false, false, false, false, false, false, false, false, false, false, false, false, false, false, false, false, false, false, false, false, false, false, false, false] rfl rfl (by kernel_rfl) (fun _ _ _ h => h) (Or.inl ⟨by rfl, ?_⟩) ?_ ?_
  rotate_left
  · intro w'
    go_simp
    with_reducible rfl
  rotate_left
  · simp only [Act.put, List.setIfInBounds_toArray, List.set_cons_zero, List.set_cons_succ, i64_w, i32_w]
    rfl
  refine pure_ (i := 4) (N := some 91) (v := ?_) (a' := ?_) #[true, true, true, true, true, false, false, false, false, false, false, false, false, false, false, false, false, false, false, false, false, false, false, false, false, false, false, false, false, false, false, false, false, false, false, false, false, false, false, false, false, false, false, false, false] rfl rfl (by kernel_rfl) (fun _ _ _ h => h) (Or.inl ⟨by rfl, ?_⟩) ?_ ?_
  rotate_left
  · intro w'
    go_simp
    with_reducible rfl
  rotate_left
  · simp only [Act.put, List.setIfInBounds_toArray, List.set_cons_zero, List.set_cons_succ, i64_w, i32_w]
    rfl
  refine pure_ (i := 5) (N := some 92) (v := ?_) (a' := ?_) #[true, true, true, true, true, true, false, false, false, false, false, false, false, false, false, false, false, false, false, false, false, false, false, false, false, false, false, false, false, false, false, false, false, false, false, false, false, false, false, false, false, false, false, false, false] rfl rfl (by kernel_rfl) (fun _ _ _ h => h) (Or.inl ⟨by rfl, ?_⟩) ?_ ?_
  rotate_left
  · intro w'
    go_simp
    with_reducible rfl
  rotate_left
  · simp only [Act.put, List.setIfInBounds_toArray, List.set_cons_zero, List.set_cons_succ, i64_w, i32_w]
    rfl
  refine pure_ (i := 6) (N := some 93) (v := ?_) (a' := ?_) #[true, true, true, true, true, true, true, false, false, false, false, false, false, false, false, false, false, false, false, false, false, false, false, false, false, false, false, false, false, false, false, false, false, false, false, false, false, false, false, false, false, false, false, false, false] rfl rfl (by kernel_rfl) (fun _ _ _ h => h) (Or.inl ⟨by rfl, ?_⟩) ?_ ?_
  rotate_left
  · intro w'
    go_simp
    with_reducible rfl
  rotate_left
  · simp only [Act.put, List.setIfInBounds_toArray, List.set_cons_zero, List.set_cons_succ, i64_w, i32_w]
    rfl
  refine pure_ (i := 7) (N := some 94) (v := ?_) (a' := ?_) #[true, true, true, true, true, true, true, true, false, false, false, false, false, false, false, false, false, false, false, false, false, false, false, false, false, false, false, false, false, false, false, false, false, false, false, false, false, false, false, false, false, false, false, false, false] rfl rfl (by kernel_rfl) (fun _ _ _ h => h) (Or.inl ⟨by rfl, ?_⟩) ?_ ?_
  rotate_left
  · intro w'
    go_simp
    with_reducible rfl
  rotate_left
  · simp only [Act.put, List.setIfInBounds_toArray, List.set_cons_zero, List.set_cons_succ, i64_w, i32_w]
    rfl
  refine pure_ (i := 8) (N := some 95) (v := ?_) (a' := ?_) #[true, true, true, true, true, true, true, true, true, false, false, false, false, false, false, false, false, false, false, false, false, false, false, false, false, false, false, false, false, false, false, false, false, false, false, false, false, false, false, false, false, false, false, false, false] rfl rfl (by kernel_rfl) (fun _ _ _ h => h) (Or.inl ⟨by rfl, ?_⟩) ?_ ?_
  rotate_left
  · intro w'
    go_simp
    with_reducible rfl
  rotate_left
  · simp only [Act.put, List.setIfInBounds_toArray, List.set_cons_zero, List.set_cons_succ, i64_w, i32_w]
    rfl
  refine pure_ (i := 9) (N := some 96) (v := ?_) (a' := ?_) #[true, true, true, true, true, true, true, true, true, true, false, false, false, false, false, false, false, false, false, false, false, false, false, false, false, false, false, false, false, false, false, false, false, false, false, false, false, false, false, false, false, false, false, false, false] rfl rfl (by kernel_rfl) (fun _ _ _ h => h) (Or.inl ⟨by rfl, ?_⟩) ?_ ?_
  rotate_left
  · intro w'
    go_simp
    with_reducible rfl
  rotate_left
  · simp only [Act.put, List.setIfInBounds_toArray, List.set_cons_zero, List.set_cons_succ, i64_w, i32_w]
    rfl
  refine pure_ (i := 10) (N := some 97) (v := ?_) (a' := ?_) #[true, true, true, true, true, true, true, true, true, true, true, false, false, false, false, false, false, false, false, false, false, false, false, false, false, false, false, false, false, false, false, false, false, false, false, false, false, false, false, false, false, false, false, false, false] rfl rfl (by kernel_rfl) (fun _ _ _ h => h) (Or.inl ⟨by rfl, ?_⟩) ?_ ?_
  rotate_left
  · intro w'
    go_simp
    with_reducible rfl
  rotate_left
  · simp only [Act.put, List.setIfInBounds_toArray, List.set_cons_zero, List.set_cons_succ, i64_w, i32_w]
    rfl
  refine pure_ (i := 11) (N := some 98) (v := ?_) (a' := ?_) #[true, true, true, true, true, true, true, true, true, true, true, true, false, false, false, false, false, false, false, false, false, false, false, false, false, false, false, false, false, false, false, false, false, false, false, false, false, false, false, false, false, false, false, false, false] rfl rfl (by kernel_rfl) (fun _ _ _ h => h) (Or.inl ⟨by rfl, ?_⟩) ?_ ?_
  rotate_left
  · intro w'
    go_simp
    with_reducible rfl
  rotate_left
  · simp only [Act.put, List.setIfInBounds_toArray, List.set_cons_zero, List.set_cons_succ, i64_w, i32_w]
    rfl
  refine pure_ (i := 12) (N := some 99) (v := ?_) (a' := ?_) #[true, true, true, true, true, true, true, true, true, true, true, true, true, false, false, false, false, false, false, false, false, false, false, false, false, false, false, false, false, false, false, false, false, false, false, false, false, false, false, false, false, false, false, false, false] rfl rfl (by kernel_rfl) (fun _ _ _ h => h) (Or.inl ⟨by rfl, ?_⟩) ?_ ?_
  rotate_left
  · intro w'
    go_simp
    with_reducible rfl
  rotate_left
  · simp only [Act.put, List.setIfInBounds_toArray, List.set_cons_zero, List.set_cons_succ, i64_w, i32_w]
    rfl
  refine pure_ (i := 13) (N := some 100) (v := ?_) (a' := ?_) #[true, true, true, true, true, true, true, true, true, true, true, true, true, true, false, false, false, false, false, false, false, false, false, false, false, false, false, false, false, false, false, false, false, false, false, false, false, false, false, false, false, false, false, false, false] rfl rfl (by kernel_rfl) (fun _ _ _ h => h) (Or.inl ⟨by rfl, ?_⟩) ?_ ?_
  rotate_left
  · intro w'
    go_simp
    with_reducible rfl
  rotate_left
  · simp only [Act.put, List.setIfInBounds_toArray, List.set_cons_zero, List.set_cons_succ, i64_w, i32_w]
    rfl
  refine pure_ (i := 14) (N := some 101) (v := ?_) (a' := ?_) #[true, true, true, true, true, true, true, true, true, true, true, true, true, true, true, false, false, false, false, false, false, false, false, false, false, false, false, false, false, false, false, false, false, false, false, false, false, false, false, false, false, false, false, false, false] rfl rfl (by kernel_rfl) (fun _ _ _ h => h) (Or.inl ⟨by rfl, ?_⟩) ?_ ?_
  rotate_left
  · intro w'
    go_simp
    with_reducible rfl
  rotate_left
  · simp only [Act.put, List.setIfInBounds_toArray, List.set_cons_zero, List.set_cons_succ, i64_w, i32_w]
    rfl
  refine pure_ (i := 15) (N := some 102) (v := ?_) (a' := ?_) #[true, true, true, true, true, true, true, true, true, true, true, true, true, true, true, true, false, false, false, false, false, false, false, false, false, false, false, false, false, false, false, false, false, false, false, false, false, false, false, false, false, false, false, false, false] rfl rfl (by kernel_rfl) (fun _ _ _ h => h) (Or.inl ⟨by rfl, ?_⟩) ?_ ?_
  rotate_left
  · intro w'
    go_simp
    with_reducible rfl
  rotate_left
  · simp only [Act.put, List.setIfInBounds_toArray, List.set_cons_zero, List.set_cons_succ, i64_w, i32_w]
    rfl
  refine pure_ (i := 16) (N := some 103) (v := ?_) (a' := ?_) #[true, true, true, true, true, true, true, true, true, true, true, true, true, true, true, true, true, false, false, false, false, false, false, false, false, false, false, false, false, false, false, false, false, false, false, false, false, false, false, false, false, false, false, false, false] rfl rfl (by kernel_rfl) (fun _ _ _ h => h) (Or.inl ⟨by rfl, ?_⟩) ?_ ?_
  rotate_left
  · intro w'
    go_simp
    with_reducible rfl
  rotate_left
  · simp only [Act.put, List.setIfInBounds_toArray, List.set_cons_zero, List.set_cons_succ, i64_w, i32_w]
    rfl
  refine pure_ (i := 17) (N := some 104) (v := ?_) (a' := ?_) #[true, true, true, true, true, true, true, true, true, true, true, true, true, true, true, true, true, true, false, false, false, false, false, false, false, false, false, false, false, false, false, false, false, false, false, false, false, false, false, false, false, false, false, false, false] rfl rfl (by kernel_rfl) (fun _ _ _ h => h) (Or.inl ⟨by rfl, ?_⟩) ?_ ?_
  rotate_left
  · intro w'
    go_simp
    with_reducible rfl
  rotate_left
  · simp only [Act.put, List.setIfInBounds_toArray, List.set_cons_zero, List.set_cons_succ, i64_w, i32_w]
    rfl
  refine pure_ (i := 18) (N := some 105) (v := ?_) (a' := ?_) #[true, true, true, true, true, true, true, true, true, true, true, true, true, true, true, true, true, true, true, false, false, false, false, false, false, false, false, false, false, false, false, false, false, false, false, false, false, false, false, false, false, false, false, false, false] rfl rfl (by kernel_rfl) (fun _ _ _ h => h) (Or.inl ⟨by rfl, ?_⟩) ?_ ?_
  rotate_left
  · intro w'
    go_simp
    with_reducible rfl
  rotate_left
  · simp only [Act.put, List.setIfInBounds_toArray, List.set_cons_zero, List.set_cons_succ, i64_w, i32_w]
    rfl
  refine pure_ (i := 19) (N := some 106) (v := ?_) (a' := ?_) #[true, true, true, true, true, true, true, true, true, true, true, true, true, true, true, true, true, true, true, true, false, false, false, false, false, false, false, false, false, false, false, false, false, false, false, false, false, false, false, false, false, false, false, false, false] rfl rfl (by kernel_rfl) (fun _ _ _ h => h) (Or.inl ⟨by rfl, ?_⟩) ?_ ?_
  rotate_left
  · intro w'
    go_simp
    with_reducible rfl
  rotate_left
  · simp only [Act.put, List.setIfInBounds_toArray, List.set_cons_zero, List.set_cons_succ, i64_w, i32_w]
    rfl
  refine pure_ (i := 20) (N := some 107) (v := ?_) (a' := ?_) #[true, true, true, true, true, true, true, true, true, true, true, true, true, true, true, true, true, true, true, true, true, false, false, false, false, false, false, false, false, false, false, false, false, false, false, false, false, false, false, false, false, false, false, false, false] rfl rfl (by kernel_rfl) (fun _ _ _ h => h) (Or.inl ⟨by rfl, ?_⟩) ?_ ?_
  rotate_left
  · intro w'
    go_simp
    with_reducible rfl
  rotate_left
  · simp only [Act.put, List.setIfInBounds_toArray, List.set_cons_zero, List.set_cons_succ, i64_w, i32_w]
    rfl
  refine pure_ (i := 21) (N := some 108) (v := ?_) (a' := ?_) #[true, true, true, true, true, true, true, true, true, true, true, true, true, true, true, true, true, true, true, true, true, true, false, false, false, false, false, false, false, false, false, false, false, false, false, false, false, false, false, false, false, false, false, false, false] rfl rfl (by kernel_rfl) (fun _ _ _ h => h) (Or.inl ⟨by rfl, ?_⟩) ?_ ?_
  rotate_left
  · intro w'
    go_simp
    with_reducible rfl
  rotate_left
  · simp only [Act.put, List.setIfInBounds_toArray, List.set_cons_zero, List.set_cons_succ, i64_w, i32_w]
    rfl
  refine pure_ (i := 22) (N := some 109) (v := ?_) (a' := ?_) #[true, true, true, true, true, true, true, true, true, true, true, true, true, true, true, true, true, true, true, true, true, true, true, false, false, false, false, false, false, false, false, false, false, false, false, false, false, false, false, false, false, false, false, false, false] rfl rfl (by kernel_rfl) (fun _ _ _ h => h) (Or.inl ⟨by rfl, ?_⟩) ?_ ?_
  rotate_left
  · intro w'
    go_simp
    with_reducible rfl
  rotate_left
  · simp only [Act.put, List.setIfInBounds_toArray, List.set_cons_zero, List.set_cons_succ, i64_w, i32_w]
    rfl
  refine pure_ (i := 23) (N := some 110) (v := ?_) (a' := ?_) #[true, true, true, true, true, true, true, true, true, true, true, true, true, true, true, true, true, true, true, true, true, true, true, true, false, false, false, false, false, false, false, false, false, false, false, false, false, false, false, false, false, false, false, false, false] rfl rfl (by kernel_rfl) (fun _ _ _ h => h) (Or.inl ⟨by rfl, ?_⟩) ?_ ?_
  rotate_left
  · intro w'
    go_simp
    with_reducible rfl
  rotate_left
  · simp only [Act.put, List.setIfInBounds_toArray, List.set_cons_zero, List.set_cons_succ, i64_w, i32_w]
    rfl
  refine pure_ (i := 24) (N := some 111) (v := ?_) (a' := ?_) #[true, true, true, true, true, true, true, true, true, true, true, true, true, true, true, true, true, true, true, true, true, true, true, true, true, false, false, false, false, false, false, false, false, false, false, false, false, false, false, false, false, false, false, false, false] rfl rfl (by kernel_rfl) (fun _ _ _ h => h) (Or.inl ⟨by rfl, ?_⟩) ?_ ?_
  rotate_left
  · intro w'
    go_simp
    with_reducible rfl
  rotate_left
  · simp only [Act.put, List.setIfInBounds_toArray, List.set_cons_zero, List.set_cons_succ, i64_w, i32_w]
    rfl
  refine pure_ (i := 25) (N := some 112) (v := ?_) (a' := ?_) #[true, true, true, true, true, true, true, true, true, true, true, true, true, true, true, true, true, true, true, true, true, true, true, true, true, true, false, false, false, false, false, false, false, false, false, false, false, false, false, false, false, false, false, false, false] rfl rfl (by kernel_rfl) (fun _ _ _ h => h) (Or.inl ⟨by rfl, ?_⟩) ?_ ?_
  rotate_left
  · intro w'
    go_simp
    with_reducible rfl
  rotate_left
  · simp only [Act.put, List.setIfInBounds_toArray, List.set_cons_zero, List.set_cons_succ, i64_w, i32_w]
    rfl
  refine pure_ (i := 26) (N := some 113) (v := ?_) (a' := ?_) #[true, true, true, true, true, true, true, true, true, true, true, true, true, true, true, true, true, true, true, true, true, true, true, true, true, true, true, false, false, false, false, false, false, false, false, false, false, false, false, false, false, false, false, false, false] rfl rfl (by kernel_rfl) (fun _ _ _ h => h) (Or.inl ⟨by rfl, ?_⟩) ?_ ?_
  rotate_left
  · intro w'
    go_simp
    with_reducible rfl
  rotate_left
  · simp only [Act.put, List.setIfInBounds_toArray, List.set_cons_zero, List.set_cons_succ, i64_w, i32_w]
    rfl
  refine pure_ (i := 27) (N := some 114) (v := ?_) (a' := ?_) #[true, true, true, true, true, true, true, true, true, true, true, true, true, true, true, true, true, true, true, true, true, true, true, true, true, true, true, true, false, false, false, false, false, false, false, false, false, false, false, false, false, false, false, false, false] rfl rfl (by kernel_rfl) (fun _ _ _ h => h) (Or.inl ⟨by rfl, ?_⟩) ?_ ?_
  rotate_left
  · intro w'
    go_simp
    with_reducible rfl
  rotate_left
  · simp only [Act.put, List.setIfInBounds_toArray, List.set_cons_zero, List.set_cons_succ, i64_w, i32_w]
    rfl
  refine pure_ (i := 28) (N := some 115) (v := ?_) (a' := ?_) #[true, true, true, true, true, true, true, true, true, true, true, true, true, true, true, true, true, true, true, true, true, true, true, true, true, true, true, true, true, false, false, false, false, false, false, false, false, false, false, false, false, false, false, false, false] rfl rfl (by kernel_rfl) (fun _ _ _ h => h) (Or.inl ⟨by rfl, ?_⟩) ?_ ?_
  rotate_left
  · intro w'
    go_simp
    with_reducible rfl
  rotate_left
  · simp only [Act.put, List.setIfInBounds_toArray, List.set_cons_zero, List.set_cons_succ, i64_w, i32_w]
    rfl
  refine pure_ (i := 29) (N := some 116) (v := ?_) (a' := ?_) #[true, true, true, true, true, true, true, true, true, true, true, true, true, true, true, true, true, true, true, true, true, true, true, true, true, true, true, true, true, true, false, false, false, false, false, false, false, false, false, false, false, false, false, false, false] rfl rfl (by kernel_rfl) (fun _ _ _ h => h) (Or.inl ⟨by rfl, ?_⟩) ?_ ?_
  rotate_left
  · intro w'
    go_simp
    with_reducible rfl
  rotate_left
  · simp only [Act.put, List.setIfInBounds_toArray, List.set_cons_zero, List.set_cons_succ, i64_w, i32_w]
    rfl
  refine pure_ (i := 30) (N := some 117) (v := ?_) (a' := ?_) #[true, true, true, true, true, true, true, true, true, true, true, true, true, true, true, true, true, true, true, true, true, true, true, true, true, true, true, true, true, true, true, false, false, false, false, false, false, false, false, false, false, false, false, false, false] rfl rfl (by kernel_rfl) (fun _ _ _ h => h) (Or.inl ⟨by rfl, ?_⟩) ?_ ?_
  rotate_left
  · intro w'
    go_simp
    with_reducible rfl
  rotate_left
  · simp only [Act.put, List.setIfInBounds_toArray, List.set_cons_zero, List.set_cons_succ, i64_w, i32_w]
    rfl
  refine pure_ (i := 31) (N := some 118) (v := ?_) (a' := ?_) #[true, true, true, true, true, true, true, true, true, true, true, true, true, true, true, true, true, true, true, true, true, true, true, true, true, true, true, true, true, true, true, true, false, false, false, false, false, false, false, false, false, false, false, false, false] rfl rfl (by kernel_rfl) (fun _ _ _ h => h) (Or.inl ⟨by rfl, ?_⟩) ?_ ?_
  rotate_left
  · intro w'
    go_simp
    with_reducible rfl
  rotate_left
  · simp only [Act.put, List.setIfInBounds_toArray, List.set_cons_zero, List.set_cons_succ, i64_w, i32_w]
    rfl
  refine pure_ (i := 32) (N := some 119) (v := ?_) (a' := ?_) #[true, true, true, true, true, true, true, true, true, true, true, true, true, true, true, true, true, true, true, true, true, true, true, true, true, true, true, true, true, true, true, true, true, false, false, false, false, false, false, false, false, false, false, false, false] rfl rfl (by kernel_rfl) (fun _ _ _ h => h) (Or.inl ⟨by rfl, ?_⟩) ?_ ?_
  rotate_left
  · intro w'
    go_simp
    with_reducible rfl
  rotate_left
  · simp only [Act.put, List.setIfInBounds_toArray, List.set_cons_zero, List.set_cons_succ, i64_w, i32_w]
    rfl
  refine pure_ (i := 33) (N := some 120) (v := ?_) (a' := ?_) #[true, true, true, true, true, true, true, true, true, true, true, true, true, true, true, true, true, true, true, true, true, true, true, true, true, true, true, true, true, true, true, true, true, true, false, false, false, false, false, false, false, false, false, false, false] rfl rfl (by kernel_rfl) (fun _ _ _ h => h) (Or.inl ⟨by rfl, ?_⟩) ?_ ?_
  rotate_left
  · intro w'
    go_simp
    with_reducible rfl
  rotate_left
  · simp only [Act.put, List.setIfInBounds_toArray, List.set_cons_zero, List.set_cons_succ, i64_w, i32_w]
    rfl
  refine pure_ (i := 34) (N := some 121) (v := ?_) (a' := ?_) #[true, true, true, true, true, true, true, true, true, true, true, true, true, true, true, true, true, true, true, true, true, true, true, true, true, true, true, true, true, true, true, true, true, true, true, false, false, false, false, false, false, false, false, false, false] rfl rfl (by kernel_rfl) (fun _ _ _ h => h) (Or.inl ⟨by rfl, ?_⟩) ?_ ?_
  rotate_left
  · intro w'
    go_simp
    with_reducible rfl
  rotate_left
  · simp only [Act.put, List.setIfInBounds_toArray, List.set_cons_zero, List.set_cons_succ, i64_w, i32_w]
    rfl
  refine pure_ (i := 36) (N := some 123) (v := ?_) (a' := ?_) #[true, true, true, true, true, true, true, true, true, true, true, true, true, true, true, true, true, true, true, true, true, true, true, true, true, true, true, true, true, true, true, true, true, true, true, false, true, false, false, false, false, false, false, false, false] rfl rfl (by kernel_rfl) (fun _ _ _ h => h) (Or.inl ⟨by rfl, ?_⟩) ?_ ?_
  rotate_left
  · intro w'
    go_simp
    with_reducible rfl
  rotate_left
  · simp only [Act.put, List.setIfInBounds_toArray, List.set_cons_zero, List.set_cons_succ, i64_w, i32_w]
    rfl
  refine pure_ (i := 40) (N := some 127) (v := ?_) (a' := ?_) #[true, true, true, true, true, true, true, true, true, true, true, true, true, true, true, true, true, true, true, true, true, true, true, true, true, true, true, true, true, true, true, true, true, true, true, false, true, false, false, false, true, false, false, false, false] rfl rfl (by kernel_rfl) (fun _ _ _ h => h) (Or.inl ⟨by rfl, ?_⟩) ?_ ?_
  rotate_left
  · intro w'
    go_simp
    with_reducible rfl
  rotate_left
  · simp only [Act.put, List.setIfInBounds_toArray, List.set_cons_zero, List.set_cons_succ, i64_w, i32_w]
    rfl
  refine take_ (i := 35) (N := some 122) (v := ?_) (a' := ?_) #[true, true, true, true, true, true, true, true, true, true, true, true, true, true, true, true, true, true, true, true, true, true, true, true, true, true, true, true, true, true, true, true, true, true, true, true, true, false, false, false, true, false, false, false, false] rfl rfl (by kernel_rfl) (fun _ _ _ h => h) (Or.inl ⟨by rfl, ?_⟩) hHeld ?_ ?_
  rotate_left
  · rintro w' ⟨s0, s1, s2, s3, s4, s5⟩
    go_simp
    with_reducible rfl
  rotate_left
  · simp only [Act.put, List.setIfInBounds_toArray, List.set_cons_zero, List.set_cons_succ, i64_w, i32_w]
    rfl
  refine take_ (i := 37) (N := some 124) (v := ?_) (a' := ?_) #[true, true, true, true, true, true, true, true, true, true, true, true, true, true, true, true, true, true, true, true, true, true, true, true, true, true, true, true, true, true, true, true, true, true, true, true, true, true, false, false, true, false, false, false, false] rfl rfl (by kernel_rfl) (fun _ _ _ h => h) (Or.inl ⟨by rfl, ?_⟩) hHeld ?_ ?_
  rotate_left
  · rintro w' ⟨s0, s1, s2, s3, s4, s5⟩
    go_simp
    with_reducible rfl
  rotate_left
  · simp only [Act.put, List.setIfInBounds_toArray, List.set_cons_zero, List.set_cons_succ, i64_w, i32_w]
    rfl
  refine take_ (i := 39) (N := some 126) (v := ?_) (a' := ?_) #[true, true, true, true, true, true, true, true, true, true, true, true, true, true, true, true, true, true, true, true, true, true, true, true, true, true, true, true, true, true, true, true, true, true, true, true, true, true, false, true, true, false, false, false, false] rfl rfl (by kernel_rfl) (fun _ _ _ h => h) (Or.inl ⟨by rfl, ?_⟩) hHeld ?_ ?_
  rotate_left
  · rintro w' ⟨s0, s1, s2, s3, s4, s5⟩
    go_simp
    with_reducible rfl
  rotate_left
  · simp only [Act.put, List.setIfInBounds_toArray, List.set_cons_zero, List.set_cons_succ, i64_w, i32_w]
    rfl
  refine take_ (i := 41) (N := some 128) (v := ?_) (a' := ?_) #[true, true, true, true, true, true, true, true, true, true, true, true, true, true, true, true, true, true, true, true, true, true, true, true, true, true, true, true, true, true, true, true, true, true, true, true, true, true, false, true, true, true, false, false, false] rfl rfl (by kernel_rfl) (fun _ _ _ h => h) (Or.inl ⟨by rfl, ?_⟩) hHeld ?_ ?_
  rotate_left
  · rintro w' ⟨s0, s1, s2, s3, s4, s5⟩
    go_simp
    with_reducible rfl
  rotate_left
  · simp only [Act.put, List.setIfInBounds_toArray, List.set_cons_zero, List.set_cons_succ, i64_w, i32_w]
    rfl
  refine one_ (i := 38) (N := some 125) #[true, true, true, true, true, true, true, true, true, true, true, true, true, true, true, true, true, true, true, true, true, true, true, true, true, true, true, true, true, true, true, true, true, true, true, true, true, true, true, true, true, true, false, false, false] rfl rfl (by kernel_rfl) (by decide) (fun K hK => ?_)
  refine goes_ Tryd.func15 (by kernel_rfl) rfl #[.agg (capsC b p).toArray, .int .i64 x0] (by rfl) rfl rfl (by simp only [List.map_toArray, List.map_cons, List.map_nil]; rfl) ?_
  with_reducible refine (show_any x0 _ N0.out.1 N0.out.2 HW.out (St.tab hHeld.2.2.2.2.2)).mono ?_
  rintro e w9 ⟨rfl, hb⟩
  refine ⟨_, rfl, ?_⟩
  refine hK.out _ _ ⟨(StC.on hb hHeld).1, (StC.on hb hHeld).2.1, (StC.on hb hHeld).2.2.1, (StC.on hb hHeld).2.2.2.1, (StC.on hb hHeld).2.2.2.2.1, (StC.on hb hHeld).2.2.2.2.2⟩ (fun hHeld => ?_)
  clear hK K
  refine norm_ (a' := ?_) ?_ ?_
  rotate_left
  · show Act.put _ (some 125) _ = _
    simp only [Act.put, List.setIfInBounds_toArray, List.set_cons_zero, List.set_cons_succ, i64_w, i32_w]
    rfl
  refine one_ (i := 42) (N := some 129) #[true, true, true, true, true, true, true, true, true, true, true, true, true, true, true, true, true, true, true, true, true, true, true, true, true, true, true, true, true, true, true, true, true, true, true, true, true, true, true, true, true, true, true, false, false] rfl rfl (by kernel_rfl) (by decide) (fun K hK => ?_)
  refine goes_ Tryd.func16 (by kernel_rfl) rfl #[.agg (capsC b p).toArray, .int .i64 x0] (by rfl) rfl rfl (by simp only [List.map_toArray, List.map_cons, List.map_nil]; rfl) ?_
  with_reducible refine (ref_Show.calls b p x0 _ N0.out.1 N0.out.2 HW.out).mono ?_
  rintro e w9 ⟨rfl, hb⟩
  refine ⟨_, rfl, ?_⟩
  refine hK.out _ _ ⟨(StC.on hb hHeld).1, (StC.on hb hHeld).2.1, (StC.on hb hHeld).2.2.1, (StC.on hb hHeld).2.2.2.1, (StC.on hb hHeld).2.2.2.2.1, (StC.on hb hHeld).2.2.2.2.2⟩ (fun hHeld => ?_)
  clear hK K
  refine norm_ (a' := ?_) ?_ ?_
  rotate_left
  · show Act.put _ (some 129) _ = _
    simp only [Act.put, List.setIfInBounds_toArray, List.set_cons_zero, List.set_cons_succ, i64_w, i32_w]
    rfl
  refine pure_ (i := 43) (N := some 130) (v := ?_) (a' := ?_) #[true, true, true, true, true, true, true, true, true, true, true, true, true, true, true, true, true, true, true, true, true, true, true, true, true, true, true, true, true, true, true, true, true, true, true, true, true, true, true, true, true, true, true, true, false] rfl rfl (by kernel_rfl) (fun _ _ _ h => h) (Or.inl ⟨by rfl, ?_⟩) ?_ ?_
  rotate_left
  · intro w'
    go_simp
    with_reducible rfl
  rotate_left
  · simp only [Act.put, List.setIfInBounds_toArray, List.set_cons_zero, List.set_cons_succ, i64_w, i32_w]
    rfl
  refine pure_ (i := 44) (N := some 131) (v := ?_) (a' := ?_) #[true, true, true, true, true, true, true, true, true, true, true, true, true, true, true, true, true, true, true, true, true, true, true, true, true, true, true, true, true, true, true, true, true, true, true, true, true, true, true, true, true, true, true, true, true] rfl rfl (by kernel_rfl) (fun _ _ _ h => h) (Or.inl ⟨by rfl, ?_⟩) ?_ ?_
  rotate_left
  · intro w'
    go_simp
    with_reducible rfl
  rotate_left
  · simp only [Act.put, List.setIfInBounds_toArray, List.set_cons_zero, List.set_cons_succ, i64_w, i32_w]
    rfl
  refine done_ (by kernel_rfl) ?_
  have HST9 := Aside0.mk hHeld.2.2.2.2.2
  obtain ⟨hB', hT', hLC', hLN', hLR', hLA', hLB'⟩ := hHeld.2.2.2.2.2
  have HB := Aside0.mk hB'
  have HT := Aside0.mk hT'
  have LC := Aside0.mk hLC'
  have LN := Aside0.mk hLN'
  have LR := Aside0.mk hLR'
  clear hB' hT' hLC' hLN' hLR' hLA' hLB' HST HST9
  have hld := LC.out.load
  obtain ⟨hn0, hn1, hn2, hn3⟩ := LN.out.cells
  have hlr := LR.out.load8
  go_wp2_with fail
  refine (again_at HI.out _ N0.out.1 N0.out.2 (by have := HU.out; omega)).mono ?_
  rintro e w10 ⟨rfl, hb⟩
  have hB' := HB.out.trans (hb.mono HB.out.size)
  have hT' := HT.out.below hb
  have hLC' := LC.out.on hb
  have hLN' := LN.out.on hb
  have hLR' := LR.out.on hb
  clear HB HT LC LN LR hlr hb hld hn0 hn1 hn2 hn3
  have HB_ := Aside0.mk hB'
  have HT_ := Aside0.mk hT'
  have HLC_ := Aside0.mk hLC'
  have HLN_ := Aside0.mk hLN'
  have HLR_ := Aside0.mk hLR'
  clear hB' hT' hLC' hLN' hLR'
  have HB := HB_
  have HT := HT_
  have LC := HLC_
  have LN := HLN_
  have LR := HLR_
  clear HB_ HT_ HLC_ HLN_ HLR_
  have hld := LC.out.load
  obtain ⟨hn0, hn1, hn2, hn3⟩ := LN.out.cells
  have hlr := LR.out.load8
  go_wp2_with fail
  refine (refagain_at HI.out _ N0.out.1 N0.out.2 (by have := HU.out; omega)).mono ?_
  rintro e w11 ⟨rfl, hb⟩
  have hB' := HB.out.trans (hb.mono HB.out.size)
  have hT' := HT.out.below hb
  have hLC' := LC.out.on hb
  have hLN' := LN.out.on hb
  have hLR' := LR.out.on hb
  clear HB HT LC LN LR hlr hb hld hn0 hn1 hn2 hn3
  have HB_ := Aside0.mk hB'
  have HT_ := Aside0.mk hT'
  have HLC_ := Aside0.mk hLC'
  have HLN_ := Aside0.mk hLN'
  have HLR_ := Aside0.mk hLR'
  clear hB' hT' hLC' hLN' hLR'
  have HB := HB_
  have HT := HT_
  have LC := HLC_
  have LN := HLN_
  have LR := HLR_
  clear HB_ HT_ HLC_ HLN_ HLR_
  have hld := LC.out.load
  obtain ⟨hn0, hn1, hn2, hn3⟩ := LN.out.cells
  have hlr := LR.out.load8
  go_wp2_with fail
  refine (law_fixed.calls _ HT.out).mono ?_
  rintro e w19 ⟨rfl, hb⟩
  go_wp2
  go_ret
  exact ⟨rfl, HB.out.trans (hb.mono HB.out.size)⟩
end Go.Proofs.YtcgcoblecpbgbaaDoor.CP
