/- CapsSets: the walk. -/
import Derived.Test.YtcgcoblecpbgbaaDoorCOrder
namespace Go.Proofs.YtcgcoblecpbgbaaDoor.CP
open Go.RowKit Go.Proofs.YtcgcoblecpbgbaaDoorW.PrintWords Go.Proofs.YtcgcoblecpbgbaaDoorW.PrintLast Go.Proofs.YtcgcoblecpbgbaaDoorW.PrintMore
attribute [local go_sem] max2_int min2_int max_two min_two max_three min_three max_four min_four
set_option linter.unusedVariables false
set_option linter.unusedSimpArgs false
/-- The three numbers of every element of the argument. -/
def Threes (w : World) (A : Option Addr) (n : Nat) (x : Nat → Nat) : Prop :=
  ∀ i, i < n → ∃ ad, A = some ad ∧ w.cell? (ad.add (i * 3)) = some (.int .u8 (x (i * 3))) ∧ w.cell? ⟨(ad.add (i * 3)).block, (ad.add (i * 3)).off + 1, none⟩ = some (.int .u8 (x (i * 3 + 1))) ∧
    w.cell? ⟨(ad.add (i * 3)).block, (ad.add (i * 3)).off + 2, none⟩ = some (.int .u8 (x (i * 3 + 2))) ∧ x (i * 3) < 256 ∧ x (i * 3 + 1) < 256 ∧ x (i * 3 + 2) < 256
theorem S2_get0 (p : List Int) (i : Nat) (u v : Int) (h : i * 2 + 1 < p.length) : (S2 p i u v).getD (i * 2) 0 = u ∧ (S2 p i u v).getD (i * 2 + 1) 0 = v := by
  unfold S2
  constructor
  · rw [List.getD_eq_getElem?_getD, List.getElem?_set_ne (by omega), List.getElem?_set_self (by omega)]
    rfl
  · rw [List.getD_eq_getElem?_getD, List.getElem?_set_self (by simp; omega)]
    rfl
theorem S2_other (p : List Int) (i j : Nat) (u v : Int) (h : i ≠ j) : (S2 p i u v).getD (j * 2) 0 = p.getD (j * 2) 0 ∧ (S2 p i u v).getD (j * 2 + 1) 0 = p.getD (j * 2 + 1) 0 := by
  unfold S2
  constructor
  · rw [List.getD_eq_getElem?_getD, List.getElem?_set_ne (by omega), List.getElem?_set_ne (by omega), List.getD_eq_getElem?_getD]
  · rw [List.getD_eq_getElem?_getD, List.getElem?_set_ne (by omega), List.getElem?_set_ne (by omega), List.getD_eq_getElem?_getD]
theorem get_set {b : List Bool} {p : List Int} {g f t : Int} (hb : b.length = 9) (hp : p.length = 18) (h1 : 1 ≤ g) (h9 : g ≤ 9) : getB (b.set (g.toNat - 1) true) (S2 p (g.toNat - 1) f t) g = (f, t, true) := by
  have hh : hasB (b.set (g.toNat - 1) true) g = true := by
    unfold hasB
    rw [decide_eq_true h1, decide_eq_true h9, show (g - 1).toNat = g.toNat - 1 by omega, List.getD_eq_getElem?_getD, List.getElem?_set_self (by omega)]
    rfl
  have h2 := S2_get0 p (g.toNat - 1) f t (by omega)
  unfold getB
  rw [if_pos hh, Nat.mul_comm, h2.1, h2.2]
theorem get_set_other {b : List Bool} {p : List Int} {g k f t : Int} (h1 : 1 ≤ g) (hk : 1 ≤ k) (hne : k ≠ g) : getB (b.set (g.toNat - 1) true) (S2 p (g.toNat - 1) f t) k = getB b p k := by
  have hh : hasB (b.set (g.toNat - 1) true) k = hasB b k := by
    unfold hasB
    rw [List.getD_eq_getElem?_getD, List.getElem?_set_ne (by omega), ← List.getD_eq_getElem?_getD]
  have h2 := S2_other p (g.toNat - 1) (k.toNat - 1) f t (by omega)
  unfold getB
  rw [hh, Nat.mul_comm, h2.1, h2.2]
theorem cell_keep {w w' : World} {a : Addr} {v : Value} (h : w.cell? a = some v) (hb : Below w.heap.size w w') : w'.cell? a = some v :=
  (hb.cell (World.block_lt_of_cell? w _ h)).trans h
attribute [-go_sem] loadVar storeVar
attribute [local go_sem] load3 load4 load5 store4 store23
set_option maxHeartbeats 4000000 in
set_option maxRecDepth 100000 in
theorem law_Sets.calls (A : Option Addr) (n cap : Nat) (x : Nat → Nat) (w : World) (hT : TabW w) (hX : Threes w A n x) (hn : n ≤ 9223372036854775807) :
    Calls Tryd.prog 4 #[.slice A n cap] w fun e w' => e = .returned (.bool true) ∧ Below w.heap.size w w' := by
  have HT := Aside0.mk hT
  have HX := Aside0.mk hX
  have s1 : (storeVar 26 ⟨w.heap.size, 0, none⟩ zeroV).run Tryd.prog (w.alloc (.cells zeroA 26)) = .ok () (w.alloc (.cells (capsC zero9 zero18).toArray 26)) := store_fresh w zero9 zero18 rfl rfl
  clear hT hX
  go_enter Tryd.func4, Tryd.ntmps4
  go_wp2_with fail
  have HB0 := Aside0.mk ((Below.refl w.heap.size w).alloc (Nat.le_refl _) (.cells (capsC zero9 zero18).toArray 26))
  have HL0 := Aside0.mk (lies_new w 26 zero9 zero18 rfl rfl)
  clear s1
  go_loopw [4, 5] (fun e i wr => e = .int .i64 0 ∧ ∃ (j : Nat) (b : List Bool) (p : List Int), i = .int .i64 (j : Int) ∧ j ≤ n ∧ j ≤ 20 ∧ Aside0 (Below w.heap.size w wr) ∧ Aside0 (Lies wr w.heap.size 26 b p) ∧ Aside0 (Wf p)) (fun _ i _ => 30 - (intOf i).toNat)
  case atStart => exact ⟨rfl, 0, zero9, zero18, rfl, Nat.zero_le _, Nat.zero_le _, ⟨HB0.out⟩, ⟨HL0.out⟩, ⟨wf_zero⟩⟩
  case round =>
    obtain ⟨rfl, j, b, p, rfl, hj, hj20, HB, HL, HW⟩ := hrel
    by_cases c1 : j < n
    · have d1 : decide ((j : Int) < (n : Int)) = true := decide_eq_true (by omega)
      have d1' : decide (j < n) = true := decide_eq_true (by omega)
      by_cases c2 : j < 20
      · have d2 : decide ((j : Int) < 20) = true := decide_eq_true (by omega)
        obtain ⟨ad, rfl, hx0, hx1, hx2, k0, k1, k2⟩ := HX.out j c1
        have y0 := cell_keep hx0 HB.out
        have y1 := cell_keep hx1 HB.out
        have y2 := cell_keep hx2 HB.out
        clear hx0 hx1 hx2
        obtain ⟨X0, hX0⟩ : ∃ X, x (j * 3) = X := ⟨_, rfl⟩
        obtain ⟨X1, hX1⟩ : ∃ X, x (j * 3 + 1) = X := ⟨_, rfl⟩
        obtain ⟨X2, hX2⟩ : ∃ X, x (j * 3 + 2) = X := ⟨_, rfl⟩
        rw [hX0] at y0 k0
        rw [hX1] at y1 k1
        rw [hX2] at y2 k2
        clear hX0 hX1 hX2
        go_wp2_with fail
        have hldN : ∀ m, (loadVar 26 ⟨w.heap.size, 0, none⟩).run Tryd.prog (wr.drewN m) = .ok (.agg (capsC b p).toArray) (wr.drewN m) := fun m => (HL.out.far (w' := wr.drewN m) rfl).load
        go_quiet (fail)
        go_wp2_with fail
        clear hldN
        generalize hW1 : World.drewN wr _ = W1
        have hB1 : Below w.heap.size w W1 := by rw [← hW1]; exact pw_below_drewN HB.out _
        have hL1 : Lies W1 w.heap.size 26 b p := by rw [← hW1]; exact HL.out.far rfl
        clear hW1 y0 y1 y2
        obtain ⟨g, hg⟩ : ∃ g : Int, g = 1 + (X0 : Int) % 9 := ⟨_, rfl⟩
        obtain ⟨f, hf⟩ : ∃ f : Int, f = (X1 : Int) := ⟨_, rfl⟩
        obtain ⟨t, ht⟩ : ∃ t : Int, t = f + (X2 : Int) := ⟨_, rfl⟩
        rw [← hg, ← hf, ← ht]
        have hg1 : 1 ≤ g := by omega
        have hg9 : g ≤ 9 := by omega
        have og := with_ok (g := g) (f := f) (t := t) hg1 hg9 (by omega) (by omega) (by omega)
        have wf1 := wf_small (x := f) (by omega) (by omega)
        have wf2 := wf_small (x := t) (by omega) (by omega)
        obtain ⟨D, hD⟩ : ∃ D : List Bool × List Int, D = (b.set (g.toNat - 1) true, S2 p (g.toNat - 1) f t) := ⟨_, rfl⟩
        have K1 : Aside0 (withB b g f t = D.1 ∧ withP p g f t = D.2 ∧ withE g f t = 0) := ⟨by rw [hD]; exact with_eq b p og⟩
        have ND : Aside0 (D.1.length = 9 ∧ D.2.length = 18) := ⟨by rw [hD]; simp [S2_length, hL1.2.1, hL1.2.2]⟩
        have WD : Aside0 (Wf D.2) := ⟨by rw [hD]; exact S2_wf HW.out _ wf1 wf2⟩
        have GD : Aside0 (getB D.1 D.2 g = (f, t, true)) := ⟨by rw [hD]; exact get_set hL1.2.1 hL1.2.2 hg1 hg9⟩
        have GO : Aside0 (∀ k : Int, 1 ≤ k → k ≠ g → getB D.1 D.2 k = getB b p k) := ⟨by rw [hD]; exact fun k hk hne => get_set_other hg1 hk hne⟩
        have s2 := fun w => store_fresh w D.1 D.2 ND.out.1 ND.out.2
        have HL1 := Aside0.mk hL1
        have HB1 := Aside0.mk hB1
        clear hg hf ht og wf1 wf2 hD hL1 hB1 HB HL k0 k1 k2
        refine (with_at K1.out _ HL1.out.2.1 HL1.out.2.2).mono ?_
        rintro e w2 ⟨rfl, hb⟩
        have HB2 := Aside0.mk ((HB1.out.trans (hb.mono HB1.out.size)).alloc (HB1.out.trans (hb.mono HB1.out.size)).size (.cells (capsC D.1 D.2).toArray 26))
        have HC2 := Aside0.mk ((HL1.out.on hb).alloc (.cells (capsC D.1 D.2).toArray 26))
        have HD2 := Aside0.mk (lies_new w2 26 D.1 D.2 ND.out.1 ND.out.2)
        have hne : w.heap.size < w2.heap.size := by have := (Array.getElem?_eq_some_iff.1 (HL1.out.on hb).1).1; exact this
        have HNE := Aside0.mk hne
        clear hb HB1 HL1 hne
        have hld := HD2.out.load
        go_wp2_with fail
        refine (caps_Get.at GD.out _ ND.out.1 ND.out.2).mono ?_
        rintro e w3 ⟨rfl, hb⟩
        have HB3 := Aside0.mk (HB2.out.trans (hb.mono HB2.out.size))
        have HC3 := Aside0.mk (HC2.out.on hb)
        have HD3 := Aside0.mk (HD2.out.on hb)
        clear hb hld HB2 HC2 HD2
        go_wp2_with fail
        go_loopw [14] (fun k wr2 => ∃ q : Nat, k = .int .i64 ((q : Int) + 1) ∧ q ≤ 9 ∧ Aside0 (Below w3.heap.size w3 wr2)) (fun k _ => 20 - (intOf k).toNat)
        case atStart => exact ⟨0, rfl, Nat.zero_le _, ⟨Below.refl _ _⟩⟩
        case round =>
          obtain ⟨q, rfl, hq, HR⟩ := hrel
          by_cases c3 : q < 9
          · have d3 : decide ((q : Int) + 1 ≤ 9) = true := decide_eq_true (by omega)
            have hC := HC3.out.on HR.out
            have hDd := HD3.out.on HR.out
            have hld1 := hC.load
            have HC4 := Aside0.mk hC
            have HD4 := Aside0.mk hDd
            clear hC hDd
            obtain ⟨⟨u, v, z⟩, hG⟩ : ∃ x, getB b p ((q : Int) + 1) = x := ⟨_, rfl⟩
            have HG := Aside0.mk hG
            clear hG
            go_wp2_with fail
            refine (caps_Get.at HG.out _ HC4.out.2.1 HC4.out.2.2).mono ?_
            rintro e w4 ⟨rfl, hb⟩
            have HR4 := Aside0.mk (HR.out.trans (hb.mono HR.out.size))
            have HD5 := Aside0.mk (HD4.out.on hb)
            clear hb hld1
            have hld2 := HD5.out.load
            by_cases c4 : (q : Int) + 1 = g
            · have d4 : ((q : Int) + 1 != g) = false := bne_eq_false_iff_eq.2 c4
              have d4' : ((q : Int) + 1 == g) = true := beq_iff_eq.2 c4
              have HGD : Aside0 (getB D.1 D.2 ((q : Int) + 1) = (f, t, true)) := ⟨by rw [c4]; exact GD.out⟩
              clear c4
              go_wp2_with fail
              refine (caps_Get.at HGD.out _ ND.out.1 ND.out.2).mono ?_
              rintro e w5 ⟨rfl, hb⟩
              have HR5 := Aside0.mk (HR4.out.trans (hb.mono HR4.out.size))
              clear hb hld2
              go_wp2
              go_roundw
              case measure => simp [intOf]; omega
              case rel => exact ⟨q + 1, by go_num, by omega, ⟨HR5.out⟩⟩
            · have d4 : ((q : Int) + 1 != g) = true := bne_iff_ne.2 c4
              have d4' : ((q : Int) + 1 == g) = false := beq_eq_false_iff_ne.2 c4
              have HGD : Aside0 (getB D.1 D.2 ((q : Int) + 1) = (u, v, z)) := ⟨by rw [GO.out _ (by omega) c4]; exact HG.out⟩
              clear c4
              go_wp2_with fail
              refine (caps_Get.at HGD.out _ ND.out.1 ND.out.2).mono ?_
              rintro e w5 ⟨rfl, hb⟩
              have HR5 := Aside0.mk (HR4.out.trans (hb.mono HR4.out.size))
              clear hb hld2
              go_wp2
              go_roundw
              case measure => simp [intOf]; omega
              case rel => exact ⟨q + 1, by go_num, by omega, ⟨HR5.out⟩⟩
          · have d3 : decide ((q : Int) + 1 ≤ 9) = false := decide_eq_false (by omega)
            have hC := HC3.out.on HR.out
            have hld1 := (HD3.out.on HR.out).load
            obtain ⟨hst, hCn⟩ := hC.store (.inl rfl) ND.out.1 ND.out.2
            have HCn := Aside0.mk hCn
            have HB4 := Aside0.mk (HB3.out.trans (HR.out.mono HB3.out.size))
            clear hC hCn
            go_wp2
            go_roundw
            case measure => simp [intOf]; omega
            case rel => exact ⟨rfl, j + 1, D.1, D.2, by go_num, by omega, by omega, ⟨below_setRow HB4.out (Nat.le_refl _) _⟩, ⟨HCn.out⟩, ⟨WD.out⟩⟩
      · have d2 : decide ((j : Int) < 20) = false := decide_eq_false (by omega)
        have HTr := Aside0.mk (HT.out.below HB.out)
        go_wp2_with fail
        refine (law_fixed.calls _ HTr.out).mono ?_
        rintro e w9 ⟨rfl, hb⟩
        go_wp2
        go_ret
        exact ⟨rfl, HB.out.trans (hb.mono HB.out.size)⟩
    · have d1 : decide ((j : Int) < (n : Int)) = false := decide_eq_false (by omega)
      have d1' : decide (j < n) = false := decide_eq_false (by omega)
      have HTr := Aside0.mk (HT.out.below HB.out)
      go_wp2_with fail
      refine (law_fixed.calls _ HTr.out).mono ?_
      rintro e w9 ⟨rfl, hb⟩
      go_wp2
      go_ret
      exact ⟨rfl, HB.out.trans (hb.mono HB.out.size)⟩
end Go.Proofs.YtcgcoblecpbgbaaDoor.CP
