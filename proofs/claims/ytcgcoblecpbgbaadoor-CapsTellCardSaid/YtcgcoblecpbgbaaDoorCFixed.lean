/- The fixed calls of the statements on groups. -/
import Derived.Test.YtcgcoblecpbgbaaDoorCFacts
namespace Go.Proofs.YtcgcoblecpbgbaaDoor.CP
open Go.RowKit Go.Proofs.YtcgcoblecpbgbaaDoorW.PrintWords Go.Proofs.YtcgcoblecpbgbaaDoorW.PrintLast Go.Proofs.YtcgcoblecpbgbaaDoorW.PrintMore
attribute [local go_sem] max2_int min2_int max_two min_two max_three min_three max_four min_four
set_option linter.unusedVariables false
set_option linter.unusedSimpArgs false
theorem store_fresh (w : World) (b : List Bool) (p : List Int) (hb : b.length = 9) (hp : p.length = 18) : (storeVar 26 ⟨w.heap.size, 0, none⟩ (.agg (capsC b p).toArray)).run Tryd.prog (w.alloc (.cells zeroA 26)) = .ok () (w.alloc (.cells (capsC b p).toArray 26)) := by
  have l : Lies (w.alloc (.cells zeroA 26)) w.heap.size 26 zero9 zero18 := lies_new w 26 zero9 zero18 rfl rfl
  rw [(l.store (.inl rfl) hb hp).1, World.setRow_alloc_new]
theorem with_at {b c : List Bool} {p q : List Int} {g f t e : Int} (h : withB b g f t = c ∧ withP p g f t = q ∧ withE g f t = e) (w : World) (hb : b.length = 9) (hp : p.length = 18) :
    Calls Tryd.prog 9 #[.agg (capsC b p).toArray, .int .i64 g, .int .i64 f, .int .i64 t] w fun x w' => x = .returned (.tuple #[.agg (capsC c q).toArray, .int .i64 e]) ∧ Below w.heap.size w w' := by
  have := caps_With.calls b p g f t w hb hp
  rw [h.1, h.2.1, h.2.2] at this
  exact this
theorem again_at {b : List Bool} {p : List Int} {s : ByteArray} {g a n : Int} {fold r : Bool} (h : againB b p s g a fold = (n, r)) (w : World) (hb : b.length = 9) (hp : p.length = 18) (hs : s.size ≤ 140737488355328) :
    Calls Tryd.prog 17 #[.agg (capsC b p).toArray, .string s, .int .i64 g, .int .i64 a, .bool fold] w fun e w' => e = .returned (.tuple #[.int .i64 n, .bool r]) ∧ Below w.heap.size w w' := by
  have := caps_Again.calls b p s g a fold w hb hp hs
  rw [h] at this
  exact this
theorem show_at {b : List Bool} {p : List Int} {n : Int} {s : ByteArray} (h : showB b p n = s) (w : World) (hb : b.length = 9) (hp : p.length = 18) (hw : Wf p) (hT : TabW w) (hj : (Lib.join ((itemsB b p (showN n)).map (·.data.toList)) comma.data.toList).length ≤ 140737488355328) :
    Calls Tryd.prog 15 #[.agg (capsC b p).toArray, .int .i64 n] w fun e w' => e = .returned (.string s) ∧ Below w.heap.size w w' := by
  have := caps_Show.calls b p n w hb hp hw hT hj
  rw [h] at this
  exact this
/-- The group's block behind a call that made memory. -/
theorem Lies.on {w w' : World} {g t : Nat} {b : List Bool} {p : List Int} (h : Lies w g t b p) (hb : Below w.heap.size w w') : Lies w' g t b p :=
  h.far (hb.block g (Array.getElem?_eq_some_iff.1 h.1).1)
theorem Lies.alloc {w : World} {g t : Nat} {b : List Bool} {p : List Int} (h : Lies w g t b p) (o : Obj) : Lies (w.alloc o) g t b p :=
  h.far (heap_alloc_old _ _ (Array.getElem?_eq_some_iff.1 h.1).1)
theorem P1_wf : Wf P1 := by unfold Wf; decide
attribute [-go_sem] loadVar storeVar
attribute [local go_sem] load3 load4 store4 store23
set_option maxHeartbeats 4000000 in
set_option maxRecDepth 100000 in
theorem law_fixed.calls (w : World) (hT : TabW w) : Calls Tryd.prog 19 #[] w fun e w' => e = .returned (.bool true) ∧ Below w.heap.size w w' := by
  have HT := Aside0.mk hT
  have HB := Aside0.mk (Below.refl w.heap.size w)
  have s1 := fun w => store_fresh w B1 P1 rfl rfl
  have s2 := fun w => store_fresh w zero9 zero18 rfl rfl
  have e1 : (hello.toList == [104, 101, 108, 108, 111]) = true := by decide +kernel
  have e2 : (show3.toList == [63, 44, 48, 45, 53, 44, 63]) = true := by decide +kernel
  have e3 : (show9.toList == [63, 44, 48, 45, 53, 44, 63, 44, 63, 44, 63, 44, 63, 44, 63, 44, 63, 44, 63]) = true := by decide +kernel
  clear hT
  go_enter Tryd.func19, Tryd.ntmps19
  go_wp2_with fail
  refine (with_at (b := zero9) (p := zero18) f_with1 _ rfl rfl).mono ?_
  rintro e w1 ⟨rfl, hb⟩
  have HT1 := Aside0.mk (HT.out.below hb)
  have HB1 := Aside0.mk (HB.out.trans hb)
  clear hb HT HB
  have L1 := Aside0.mk (lies_new w1 26 B1 P1 rfl rfl)
  have hld := L1.out.load
  have HT2 := Aside0.mk (HT1.out.below ((Below.refl w1.heap.size w1).alloc (Nat.le_refl _) (.cells (capsC B1 P1).toArray 26)))
  have HB2 := Aside0.mk (HB1.out.alloc HB1.out.size (.cells (capsC B1 P1).toArray 26))
  clear HT1 HB1
  go_wp2_with fail
  refine (with_at (b := B1) (p := P1) f_with2 _ rfl rfl).mono ?_
  rintro e w2 ⟨rfl, hb⟩
  have La2 := Aside0.mk (L1.out.on hb)
  have HTa2 := Aside0.mk (HT2.out.below hb)
  have HBa2 := Aside0.mk (HB2.out.trans (hb.mono HB2.out.size))
  clear hb L1 HT2 HB2 hld
  have Lb2 := Aside0.mk (La2.out.alloc (.cells (capsC zero9 zero18).toArray 26))
  have HTb2 := Aside0.mk (HTa2.out.below ((Below.refl w2.heap.size w2).alloc (Nat.le_refl _) (.cells (capsC zero9 zero18).toArray 26)))
  have HBb2 := Aside0.mk (HBa2.out.alloc HBa2.out.size (.cells (capsC zero9 zero18).toArray 26))
  clear La2 HTa2 HBa2
  have hld := Lb2.out.load
  go_wp2_with fail
  refine (with_at (b := B1) (p := P1) f_with3 _ rfl rfl).mono ?_
  rintro e w3 ⟨rfl, hb⟩
  have La3 := Aside0.mk (Lb2.out.on hb)
  have HTa3 := Aside0.mk (HTb2.out.below hb)
  have HBa3 := Aside0.mk (HBb2.out.trans (hb.mono HBb2.out.size))
  clear hb Lb2 HTb2 HBb2 hld
  have Lb3 := Aside0.mk (La3.out.alloc (.cells (capsC zero9 zero18).toArray 26))
  have HTb3 := Aside0.mk (HTa3.out.below ((Below.refl w3.heap.size w3).alloc (Nat.le_refl _) (.cells (capsC zero9 zero18).toArray 26)))
  have HBb3 := Aside0.mk (HBa3.out.alloc HBa3.out.size (.cells (capsC zero9 zero18).toArray 26))
  clear La3 HTa3 HBa3
  have hld := Lb3.out.load
  go_wp2_with fail
  refine (with_at (b := B1) (p := P1) f_with4 _ rfl rfl).mono ?_
  rintro e w4 ⟨rfl, hb⟩
  have La4 := Aside0.mk (Lb3.out.on hb)
  have HTa4 := Aside0.mk (HTb3.out.below hb)
  have HBa4 := Aside0.mk (HBb3.out.trans (hb.mono HBb3.out.size))
  clear hb Lb3 HTb3 HBb3 hld
  have Lb4 := Aside0.mk (La4.out.alloc (.cells (capsC zero9 zero18).toArray 26))
  have HTb4 := Aside0.mk (HTa4.out.below ((Below.refl w4.heap.size w4).alloc (Nat.le_refl _) (.cells (capsC zero9 zero18).toArray 26)))
  have HBb4 := Aside0.mk (HBa4.out.alloc HBa4.out.size (.cells (capsC zero9 zero18).toArray 26))
  clear La4 HTa4 HBa4
  have hld := Lb4.out.load
  go_wp2_with fail
  refine (caps_Get.at f_get2 _ rfl rfl).mono ?_
  rintro e w5 ⟨rfl, hb⟩
  have La5 := Aside0.mk (Lb4.out.on hb)
  have HTa5 := Aside0.mk (HTb4.out.below hb)
  have HBa5 := Aside0.mk (HBb4.out.trans (hb.mono HBb4.out.size))
  clear hb Lb4 HTb4 HBb4 hld
  have hld := La5.out.load
  go_wp2_with fail
  refine (caps_Get.at f_get1 _ rfl rfl).mono ?_
  rintro e w6 ⟨rfl, hb⟩
  have La6 := Aside0.mk (La5.out.on hb)
  have HTa6 := Aside0.mk (HTa5.out.below hb)
  have HBa6 := Aside0.mk (HBa5.out.trans (hb.mono HBa5.out.size))
  clear hb La5 HTa5 HBa5 hld
  have hld := La6.out.load
  go_wp2_with fail
  refine (caps_Text.at f_text1 _ rfl rfl (by decide)).mono ?_
  rintro e w7 ⟨rfl, hb⟩
  have La7 := Aside0.mk (La6.out.on hb)
  have HTa7 := Aside0.mk (HTa6.out.below hb)
  have HBa7 := Aside0.mk (HBa6.out.trans (hb.mono HBa6.out.size))
  clear hb La6 HTa6 HBa6 hld
  have hld := La7.out.load
  go_wp2_with fail
  refine (caps_Text.at f_text2 _ rfl rfl (by decide)).mono ?_
  rintro e w8 ⟨rfl, hb⟩
  have La8 := Aside0.mk (La7.out.on hb)
  have HTa8 := Aside0.mk (HTa7.out.below hb)
  have HBa8 := Aside0.mk (HBa7.out.trans (hb.mono HBa7.out.size))
  clear hb La7 HTa7 HBa7 hld
  have hld := La8.out.load
  go_wp2_with fail
  refine (again_at f_again1 _ rfl rfl (by decide)).mono ?_
  rintro e w9 ⟨rfl, hb⟩
  have La9 := Aside0.mk (La8.out.on hb)
  have HTa9 := Aside0.mk (HTa8.out.below hb)
  have HBa9 := Aside0.mk (HBa8.out.trans (hb.mono HBa8.out.size))
  clear hb La8 HTa8 HBa8 hld
  have hld := La9.out.load
  go_wp2_with fail
  refine (again_at f_again2 _ rfl rfl (by decide)).mono ?_
  rintro e w10 ⟨rfl, hb⟩
  have La10 := Aside0.mk (La9.out.on hb)
  have HTa10 := Aside0.mk (HTa9.out.below hb)
  have HBa10 := Aside0.mk (HBa9.out.trans (hb.mono HBa9.out.size))
  clear hb La9 HTa9 HBa9 hld
  have hld := La10.out.load
  go_wp2_with fail
  refine (show_at f_show3 _ rfl rfl P1_wf HTa10.out (by decide +kernel)).mono ?_
  rintro e w11 ⟨rfl, hb⟩
  have La11 := Aside0.mk (La10.out.on hb)
  have HTa11 := Aside0.mk (HTa10.out.below hb)
  have HBa11 := Aside0.mk (HBa10.out.trans (hb.mono HBa10.out.size))
  clear hb La10 HTa10 HBa10 hld
  have hld := La11.out.load
  go_wp2_with fail
  refine (show_at f_show0 _ rfl rfl P1_wf HTa11.out (by decide +kernel)).mono ?_
  rintro e w12 ⟨rfl, hb⟩
  have La12 := Aside0.mk (La11.out.on hb)
  have HTa12 := Aside0.mk (HTa11.out.below hb)
  have HBa12 := Aside0.mk (HBa11.out.trans (hb.mono HBa11.out.size))
  clear hb La11 HTa11 HBa11 hld
  have hld := La12.out.load
  go_wp2_with fail
  refine (show_at f_show99 _ rfl rfl P1_wf HTa12.out (by decide +kernel)).mono ?_
  rintro e w13 ⟨rfl, hb⟩
  have La13 := Aside0.mk (La12.out.on hb)
  have HTa13 := Aside0.mk (HTa12.out.below hb)
  have HBa13 := Aside0.mk (HBa12.out.trans (hb.mono HBa12.out.size))
  clear hb La12 HTa12 HBa12 hld
  go_wp2
  go_ret
  exact ⟨rfl, HBa13.out⟩
end Go.Proofs.YtcgcoblecpbgbaaDoor.CP
