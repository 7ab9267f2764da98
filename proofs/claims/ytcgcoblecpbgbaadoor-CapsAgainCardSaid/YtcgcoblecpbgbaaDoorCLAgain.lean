/- CapsAgain: the walk. -/
import Derived.Test.YtcgcoblecpbgbaaDoorCOrder
namespace Go.Proofs.YtcgcoblecpbgbaaDoor.CP
open Go.RowKit Go.Proofs.YtcgcoblecpbgbaaDoorW.PrintWords Go.Proofs.YtcgcoblecpbgbaaDoorW.PrintLast Go.Proofs.YtcgcoblecpbgbaaDoorW.PrintMore
attribute [local go_sem] max2_int min2_int max_two min_two max_three min_three max_four min_four
set_option linter.unusedVariables false
set_option linter.unusedSimpArgs false
theorem text_at {b : List Bool} {p : List Int} {s t : ByteArray} {g : Int} {i : Bool} (h : textB b p s g = (t, i)) (w : World) (hb : b.length = 9) (hp : p.length = 18) (hs : s.size ≤ 9223372036854775807) :
    Calls Tryd.prog 13 #[.agg (capsC b p).toArray, .string s, .int .i64 g] w fun e w' => e = .returned (.tuple #[.string t, .bool i]) ∧ Below w.heap.size w w' := caps_Text.at h w hb hp hs
/-- The third byte of the argument, in its block behind a call and a block more. -/
theorem at_args {w w1 : World} {x0 x1 x2 : Nat} (hb : Below (w.alloc (.cells #[.int .u8 x0, .int .u8 x1, .int .u8 x2] 49)).heap.size (w.alloc (.cells #[.int .u8 x0, .int .u8 x1, .int .u8 x2] 49)) w1) (o : Obj) :
    (w1.alloc o).cell? ⟨w.heap.size, 2, none⟩ = some (.int .u8 x2) := by
  have hs : w.heap.size < (w.alloc (.cells #[.int .u8 x0, .int .u8 x1, .int .u8 x2] 49)).heap.size := by simp
  have h1 : (w1.alloc o).heap[w.heap.size]? = some (.cells #[.int .u8 x0, .int .u8 x1, .int .u8 x2] 49 (0, 0)) := by
    rw [heap_alloc_old _ _ (by have := hb.size; omega), hb.block _ hs, heap_alloc_last]
  rw [cell_of_row _ _ 2 _ 49 (0, 0) h1]
  rfl
theorem cell_on {w w' : World} {a : Addr} {v : Value} (h : w.cell? a = some v) (hb : Below w.heap.size w w') : w'.cell? a = some v := by
  have hlt : a.block < w.heap.size := World.block_lt_of_cell? w _ h
  exact (hb.cell hlt).trans h
attribute [-go_sem] loadVar storeVar
attribute [local go_sem] load3 load4 load5 store4 store23
set_option maxHeartbeats 4000000 in
set_option maxRecDepth 100000 in
theorem law_Again.calls (s : ByteArray) (x0 x1 x2 : Nat) (w : World) (hT : TabW w) (h0 : x0 < 256) (h1 : x1 < 256) (h2 : x2 < 256) :
    Calls Tryd.prog 5 #[.string s, .agg #[.int .u8 x0, .int .u8 x1, .int .u8 x2]] w fun e w' => e = .returned (.bool true) ∧ Below w.heap.size w w' := by
  have HT := Aside0.mk (hT.below ((Below.refl w.heap.size w).alloc (Nat.le_refl _) (.cells #[.int .u8 x0, .int .u8 x1, .int .u8 x2] 49)))
  have HB := Aside0.mk ((Below.refl w.heap.size w).alloc (Nat.le_refl _) (.cells #[.int .u8 x0, .int .u8 x1, .int .u8 x2] 49))
  clear hT
  obtain ⟨m, hm⟩ : ∃ m : Int, (if 60 < (s.size : Int) then 60 else (s.size : Int)) = m := ⟨_, rfl⟩
  have hm0 : 0 ≤ m := by rw [← hm]; split <;> omega
  have hm1 : m ≤ 60 := by rw [← hm]; split <;> omega
  have hm2 : m ≤ (s.size : Int) := by rw [← hm]; split <;> omega
  obtain ⟨u, hu⟩ : ∃ u : ByteArray, s.extract 0 m.toNat = u := ⟨_, rfl⟩
  have hn : u.size = m.toNat := by rw [← hu, ByteArray.size_extract]; omega
  have hN : u.size ≤ 60 := by omega
  obtain ⟨N, hNN⟩ : ∃ N, u.size = N := ⟨_, rfl⟩
  rw [hNN] at hN
  clear hn
  obtain ⟨f, hf⟩ : ∃ f : Nat, x0 % (N + 1) = f := ⟨_, rfl⟩
  have hfN : f ≤ N := by rw [← hf]; have := Nat.mod_lt x0 (show N + 1 > 0 by omega); omega
  obtain ⟨r, hr⟩ : ∃ r : Nat, x1 % (N - f + 1) = r := ⟨_, rfl⟩
  have hrN : f + r ≤ N := by rw [← hr]; have := Nat.mod_lt x1 (show N - f + 1 > 0 by omega); omega
  have e1' : (x0 : Int) % ((N : Int) + 1) = (f : Int) := by rw [← hf, Int.natCast_emod]; rfl
  have e1 : Int.tmod (x0 : Int) ((N : Int) + 1) = (f : Int) := by rw [Int.tmod_eq_emod_of_nonneg (by omega), e1']
  have e2' : (x1 : Int) % ((N : Int) - (f : Int) + 1) = (r : Int) := by
    rw [show (N : Int) - (f : Int) + 1 = ((N - f + 1 : Nat) : Int) by omega, ← hr, Int.natCast_emod]
  have e2 : Int.tmod (x1 : Int) ((N : Int) - (f : Int) + 1) = (r : Int) := by rw [Int.tmod_eq_emod_of_nonneg (by omega), e2']
  clear hf hr
  have ok := with_ok (g := 3) (f := (f : Int)) (t := (f : Int) + (r : Int)) (by omega) (by omega) (by omega) (by omega) (by omega)
  have hwe := with_eq zero9 zero18 ok
  rw [show ((3 : Int)).toNat - 1 = 2 from rfl] at hwe
  obtain ⟨C, hC⟩ : ∃ C : List Bool × List Int, C = (zero9.set 2 true, S2 zero18 2 (f : Int) ((f : Int) + (r : Int))) := ⟨_, rfl⟩
  have K1 : Aside0 (withB zero9 3 (f : Int) ((f : Int) + (r : Int)) = C.1 ∧ withP zero18 3 (f : Int) ((f : Int) + (r : Int)) = C.2 ∧ withE 3 (f : Int) ((f : Int) + (r : Int)) = 0) := ⟨by rw [hC]; exact hwe⟩
  have N1 : Aside0 (C.1.length = 9 ∧ C.2.length = 18) := ⟨by rw [hC]; simp [S2_length, zero9, zero18]⟩
  obtain ⟨t, ht⟩ : ∃ t, u.extract f (f + r) = t := ⟨_, rfl⟩
  have htz : t.size = r := by rw [← ht, ByteArray.size_extract]; omega
  have hget : getB C.1 C.2 3 = ((f : Int), (f : Int) + (r : Int), true) := by rw [hC]; rfl
  have htext : textB C.1 C.2 u 3 = (t, true) := by
    unfold textB
    rw [hget]
    have hri : riseB (f : Int) ((f : Int) + (r : Int)) = true := by
      unfold riseB
      rw [decide_eq_true (by omega), decide_eq_true (by omega), decide_eq_true (by omega)]
      rfl
    rw [if_pos ⟨rfl, hri, show (f : Int) + (r : Int) ≤ (u.size : Int) by omega⟩, show ((f : Int) + (r : Int)).toNat = f + r by omega, Int.toNat_natCast, ht]
  have ha1 : againB C.1 C.2 u 3 (f : Int) false = ((r : Int), true) := by
    unfold againB againT
    rw [htext]
    simp only [if_true]
    rw [if_pos (by omega), if_pos (.inl (by rw [Int.toNat_natCast, htz]; exact ht)), htz]
  have A1 := Aside0.mk ha1
  have TX := Aside0.mk htext
  have hag : ∀ fold, againB C.1 C.2 u 3 (x2 : Int) fold = againT t u (x2 : Int) fold := fun fold => by unfold againB; rw [htext]; rfl
  clear hwe ok hC ha1 htext hget
  have s1 := fun w => store_fresh w C.1 C.2 N1.out.1 N1.out.2
  have d5 : ((u.extract f (f + r)).toList != t.toList) = false := bne_eq_false_iff_eq.2 (by rw [ht])
  have d5' : (t.toList != (u.extract f (f + r)).toList) = false := bne_eq_false_iff_eq.2 (by rw [ht])
  have d8 : (t.toList == (u.extract f (f + r)).toList) = true := beq_iff_eq.2 (by rw [ht])
  have d9 : t.toList = (u.extract f (f + r)).toList := by rw [ht]
  have D9 := Aside0.mk d9
  clear d9
  have d7 : decide (N < r) = false := decide_eq_false (by omega)
  have d6 : (t.toList != t.toList) = false := bne_eq_false_iff_eq.2 rfl
  have r1 : (f : Int) ≤ (f : Int) + (r : Int) := by omega
  have r2 : (f : Int) + (r : Int) ≤ (N : Int) := by omega
  have r3 : ((f : Int) + (r : Int)).toNat = f + r := by omega
  have r4 : (f : Int) + (r : Int) - (f : Int) = (r : Int) := by omega
  have HU : Aside0 (u.size ≤ 60) := ⟨by omega⟩
  by_cases c : (x2 : Int) + t.size ≤ u.size ∧ u.extract x2 (x2 + t.size) = t
  · have hp : againB C.1 C.2 u 3 (x2 : Int) false = ((r : Int), true) := by
      rw [hag]; unfold againT
      rw [if_pos ⟨by omega, c.1⟩, if_pos (.inl (by rw [Int.toNat_natCast]; exact c.2)), htz]
    have hq : againB C.1 C.2 u 3 (x2 : Int) true = ((r : Int), true) := by
      rw [hag]; unfold againT
      rw [if_pos ⟨by omega, c.1⟩, if_pos (.inl (by rw [Int.toNat_natCast]; exact c.2)), htz]
    obtain ⟨c1, c2⟩ := c
    rw [htz] at c1 c2
    have g1 : decide ((x2 : Int) > (N : Int) - (r : Int)) = false := decide_eq_false (by omega)
    have g2 : decide ((r : Int) > (N : Int)) = false := decide_eq_false (by omega)
    have g3 : (x2 : Int) ≤ (x2 : Int) + (r : Int) := by omega
    have g4 : (x2 : Int) + (r : Int) ≤ (N : Int) := by omega
    have g5 : ((x2 : Int) + (r : Int)).toNat = x2 + r := by omega
    have g6 : ((u.extract x2 (x2 + r)).toList == t.toList) = true := beq_iff_eq.2 (by rw [c2])
    have HP := Aside0.mk hp
    have HQ := Aside0.mk hq
    have HNN := Aside0.mk hNN
    clear hp hq hag c1 c2 htz ht
    go_enter Tryd.func5, Tryd.ntmps5
    go_wp2_with fail
    refine (with_at (b := zero9) (p := zero18) K1.out _ rfl rfl).mono ?_
    rintro e w1 ⟨rfl, hb⟩
    have HB1 := Aside0.mk ((HB.out.trans (hb.mono HB.out.size)).alloc (HB.out.trans (hb.mono HB.out.size)).size (.cells (capsC C.1 C.2).toArray 26))
    have HT1 := Aside0.mk ((HT.out.below hb).below ((Below.refl w1.heap.size w1).alloc (Nat.le_refl _) (.cells (capsC C.1 C.2).toArray 26)))
    have HX1 := Aside0.mk (at_args hb (.cells (capsC C.1 C.2).toArray 26))
    have L1 := Aside0.mk (lies_new w1 26 C.1 C.2 N1.out.1 N1.out.2)
    clear hb HB HT
    have hld := L1.out.load
    have hx2 := HX1.out
    go_wp2_with fail
    refine (again_at A1.out _ N1.out.1 N1.out.2 (by have := HU.out; omega)).mono ?_
    rintro e w2 ⟨rfl, hb⟩
    have HB2 := Aside0.mk (HB1.out.trans (hb.mono HB1.out.size))
    have HT2 := Aside0.mk (HT1.out.below hb)
    have HX2 := Aside0.mk (cell_on HX1.out hb)
    have L2 := Aside0.mk (L1.out.on hb)
    clear hb HB1 HT1 HX1 L1 hld hx2
    have hld := L2.out.load
    have hx2 := HX2.out
    go_wp2_with fail
    refine (again_at HP.out _ N1.out.1 N1.out.2 (by have := HU.out; omega)).mono ?_
    rintro e w3 ⟨rfl, hb⟩
    have HB3 := Aside0.mk (HB2.out.trans (hb.mono HB2.out.size))
    have HT3 := Aside0.mk (HT2.out.below hb)
    have HX3 := Aside0.mk (cell_on HX2.out hb)
    have L3 := Aside0.mk (L2.out.on hb)
    clear hb HB2 HT2 HX2 L2 hld hx2
    have hld := L3.out.load
    have hx2 := HX3.out
    go_wp2_with fail
    refine (again_at HQ.out _ N1.out.1 N1.out.2 (by have := HU.out; omega)).mono ?_
    rintro e w4 ⟨rfl, hb⟩
    have HB4 := Aside0.mk (HB3.out.trans (hb.mono HB3.out.size))
    have HT4 := Aside0.mk (HT3.out.below hb)
    have HX4 := Aside0.mk (cell_on HX3.out hb)
    have L4 := Aside0.mk (L3.out.on hb)
    clear hb HB3 HT3 HX3 L3 hld hx2
    have hld := L4.out.load
    have hx2 := HX4.out
    go_wp2_with fail
    refine (text_at TX.out _ N1.out.1 N1.out.2 (by have := HU.out; omega)).mono ?_
    rintro e w5 ⟨rfl, hb⟩
    have HB5 := Aside0.mk (HB4.out.trans (hb.mono HB4.out.size))
    have HT5 := Aside0.mk (HT4.out.below hb)
    have HX5 := Aside0.mk (cell_on HX4.out hb)
    have L5 := Aside0.mk (L4.out.on hb)
    clear hb HB4 HT4 HX4 L4 hld hx2
    have hld := L5.out.load
    have hx2 := HX5.out
    go_wp2_with fail
    refine (law_fixed.calls _ HT5.out).mono ?_
    rintro e w9 ⟨rfl, hb⟩
    go_wp2
    go_ret
    exact ⟨rfl, HB5.out.trans (hb.mono HB5.out.size)⟩
  · have hp : againB C.1 C.2 u 3 (x2 : Int) false = (0, false) := by
      rw [hag]; unfold againT
      by_cases c1 : 0 ≤ (x2 : Int) ∧ (x2 : Int) + t.size ≤ u.size
      · rw [if_pos c1, if_neg (by rw [Int.toNat_natCast]; simp only [Bool.false_eq_true, false_and, or_false]; exact fun e => c ⟨c1.2, e⟩)]
      · rw [if_neg c1]
    have hq2 : againB C.1 C.2 u 3 (x2 : Int) true = ((r : Int), true) ∨ againB C.1 C.2 u 3 (x2 : Int) true = (0, false) := by
      rw [hag]; unfold againT
      split
      · split
        · exact .inl (by rw [htz])
        · exact .inr rfl
      · exact .inr rfl
    have HP := Aside0.mk hp
    have HNN := Aside0.mk hNN
    clear hp hag htz ht c
    rcases hq2 with hq | hq
    · have HQ := Aside0.mk hq
      clear hq
      go_enter Tryd.func5, Tryd.ntmps5
      go_wp2_with fail
      refine (with_at (b := zero9) (p := zero18) K1.out _ rfl rfl).mono ?_
      rintro e w1 ⟨rfl, hb⟩
      have HB1 := Aside0.mk ((HB.out.trans (hb.mono HB.out.size)).alloc (HB.out.trans (hb.mono HB.out.size)).size (.cells (capsC C.1 C.2).toArray 26))
      have HT1 := Aside0.mk ((HT.out.below hb).below ((Below.refl w1.heap.size w1).alloc (Nat.le_refl _) (.cells (capsC C.1 C.2).toArray 26)))
      have HX1 := Aside0.mk (at_args hb (.cells (capsC C.1 C.2).toArray 26))
      have L1 := Aside0.mk (lies_new w1 26 C.1 C.2 N1.out.1 N1.out.2)
      clear hb HB HT
      have hld := L1.out.load
      have hx2 := HX1.out
      go_wp2_with fail
      refine (again_at A1.out _ N1.out.1 N1.out.2 (by have := HU.out; omega)).mono ?_
      rintro e w2 ⟨rfl, hb⟩
      have HB2 := Aside0.mk (HB1.out.trans (hb.mono HB1.out.size))
      have HT2 := Aside0.mk (HT1.out.below hb)
      have HX2 := Aside0.mk (cell_on HX1.out hb)
      have L2 := Aside0.mk (L1.out.on hb)
      clear hb HB1 HT1 HX1 L1 hld hx2
      have hld := L2.out.load
      have hx2 := HX2.out
      go_wp2_with fail
      refine (again_at HP.out _ N1.out.1 N1.out.2 (by have := HU.out; omega)).mono ?_
      rintro e w3 ⟨rfl, hb⟩
      have HB3 := Aside0.mk (HB2.out.trans (hb.mono HB2.out.size))
      have HT3 := Aside0.mk (HT2.out.below hb)
      have HX3 := Aside0.mk (cell_on HX2.out hb)
      have L3 := Aside0.mk (L2.out.on hb)
      clear hb HB2 HT2 HX2 L2 hld hx2
      have hld := L3.out.load
      have hx2 := HX3.out
      go_wp2_with fail
      refine (again_at HQ.out _ N1.out.1 N1.out.2 (by have := HU.out; omega)).mono ?_
      rintro e w4 ⟨rfl, hb⟩
      have HB4 := Aside0.mk (HB3.out.trans (hb.mono HB3.out.size))
      have HT4 := Aside0.mk (HT3.out.below hb)
      have HX4 := Aside0.mk (cell_on HX3.out hb)
      have L4 := Aside0.mk (L3.out.on hb)
      clear hb HB3 HT3 HX3 L3 hld hx2
      have hld := L4.out.load
      have hx2 := HX4.out
      go_wp2_with fail
      refine (text_at TX.out _ N1.out.1 N1.out.2 (by have := HU.out; omega)).mono ?_
      rintro e w5 ⟨rfl, hb⟩
      have HB5 := Aside0.mk (HB4.out.trans (hb.mono HB4.out.size))
      have HT5 := Aside0.mk (HT4.out.below hb)
      have HX5 := Aside0.mk (cell_on HX4.out hb)
      have L5 := Aside0.mk (L4.out.on hb)
      clear hb HB4 HT4 HX4 L4 hld hx2
      have hld := L5.out.load
      have hx2 := HX5.out
      go_wp2_with fail
      refine (law_fixed.calls _ HT5.out).mono ?_
      rintro e w9 ⟨rfl, hb⟩
      go_wp2
      go_ret
      exact ⟨rfl, HB5.out.trans (hb.mono HB5.out.size)⟩
    · have HQ := Aside0.mk hq
      clear hq
      go_enter Tryd.func5, Tryd.ntmps5
      go_wp2_with fail
      refine (with_at (b := zero9) (p := zero18) K1.out _ rfl rfl).mono ?_
      rintro e w1 ⟨rfl, hb⟩
      have HB1 := Aside0.mk ((HB.out.trans (hb.mono HB.out.size)).alloc (HB.out.trans (hb.mono HB.out.size)).size (.cells (capsC C.1 C.2).toArray 26))
      have HT1 := Aside0.mk ((HT.out.below hb).below ((Below.refl w1.heap.size w1).alloc (Nat.le_refl _) (.cells (capsC C.1 C.2).toArray 26)))
      have HX1 := Aside0.mk (at_args hb (.cells (capsC C.1 C.2).toArray 26))
      have L1 := Aside0.mk (lies_new w1 26 C.1 C.2 N1.out.1 N1.out.2)
      clear hb HB HT
      have hld := L1.out.load
      have hx2 := HX1.out
      go_wp2_with fail
      refine (again_at A1.out _ N1.out.1 N1.out.2 (by have := HU.out; omega)).mono ?_
      rintro e w2 ⟨rfl, hb⟩
      have HB2 := Aside0.mk (HB1.out.trans (hb.mono HB1.out.size))
      have HT2 := Aside0.mk (HT1.out.below hb)
      have HX2 := Aside0.mk (cell_on HX1.out hb)
      have L2 := Aside0.mk (L1.out.on hb)
      clear hb HB1 HT1 HX1 L1 hld hx2
      have hld := L2.out.load
      have hx2 := HX2.out
      go_wp2_with fail
      refine (again_at HP.out _ N1.out.1 N1.out.2 (by have := HU.out; omega)).mono ?_
      rintro e w3 ⟨rfl, hb⟩
      have HB3 := Aside0.mk (HB2.out.trans (hb.mono HB2.out.size))
      have HT3 := Aside0.mk (HT2.out.below hb)
      have HX3 := Aside0.mk (cell_on HX2.out hb)
      have L3 := Aside0.mk (L2.out.on hb)
      clear hb HB2 HT2 HX2 L2 hld hx2
      have hld := L3.out.load
      have hx2 := HX3.out
      go_wp2_with fail
      refine (again_at HQ.out _ N1.out.1 N1.out.2 (by have := HU.out; omega)).mono ?_
      rintro e w4 ⟨rfl, hb⟩
      have HB4 := Aside0.mk (HB3.out.trans (hb.mono HB3.out.size))
      have HT4 := Aside0.mk (HT3.out.below hb)
      have HX4 := Aside0.mk (cell_on HX3.out hb)
      have L4 := Aside0.mk (L3.out.on hb)
      clear hb HB3 HT3 HX3 L3 hld hx2
      have hld := L4.out.load
      have hx2 := HX4.out
      go_wp2_with fail
      refine (text_at TX.out _ N1.out.1 N1.out.2 (by have := HU.out; omega)).mono ?_
      rintro e w5 ⟨rfl, hb⟩
      have HB5 := Aside0.mk (HB4.out.trans (hb.mono HB4.out.size))
      have HT5 := Aside0.mk (HT4.out.below hb)
      have HX5 := Aside0.mk (cell_on HX4.out hb)
      have L5 := Aside0.mk (L4.out.on hb)
      clear hb HB4 HT4 HX4 L4 hld hx2
      have hld := L5.out.load
      have hx2 := HX5.out
      go_wp2_with fail
      refine (law_fixed.calls _ HT5.out).mono ?_
      rintro e w9 ⟨rfl, hb⟩
      go_wp2
      go_ret
      exact ⟨rfl, HB5.out.trans (hb.mono HB5.out.size)⟩
end Go.Proofs.YtcgcoblecpbgbaaDoor.CP
