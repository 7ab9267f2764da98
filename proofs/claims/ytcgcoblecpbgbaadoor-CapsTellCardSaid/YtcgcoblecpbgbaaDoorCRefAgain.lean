/- The document's Again. -/
import Derived.Test.YtcgcoblecpbgbaaDoorCAgain
namespace Go.Proofs.YtcgcoblecpbgbaaDoor.CP
open Go.RowKit Go.Proofs.YtcgcoblecpbgbaaDoorW.PrintWords Go.Proofs.YtcgcoblecpbgbaaDoorW.PrintLast Go.Proofs.YtcgcoblecpbgbaaDoorW.PrintMore
attribute [local go_sem] max2_int min2_int max_two min_two max_three min_three max_four min_four
set_option linter.unusedVariables false
set_option linter.unusedSimpArgs false
def okB (fold : Bool) (x y : Nat) : Bool := x == y || (fold && lowB x == lowB y)
/-- From place i on they stand. -/
def agFrom (t s : ByteArray) (a : Nat) (fold : Bool) (i : Nat) : Nat → Bool
  | 0 => true
  | d + 1 => okB fold (byt t i) (byt s (a + i)) && agFrom t s a fold (i + 1) d
theorem agFrom_iff (t s : ByteArray) (a : Nat) (fold : Bool) : ∀ d i, agFrom t s a fold i d = true ↔ ∀ j, i ≤ j → j < i + d → okB fold (byt t j) (byt s (a + j)) = true
  | 0, i => by simp [agFrom]; intro j h1 h2; omega
  | d + 1, i => by
    rw [agFrom, Bool.and_eq_true, agFrom_iff t s a fold d (i + 1)]
    constructor
    · intro ⟨h1, h2⟩ j h3 h4
      rcases Nat.lt_or_ge i j with c | c
      · exact h2 j (by omega) (by omega)
      · rw [show j = i by omega]; exact h1
    · intro h
      exact ⟨h i (by omega) (by omega), fun j h1 h2 => h j (by omega) (by omega)⟩
theorem sameFrom_iff (a b : ByteArray) : ∀ d i, sameFrom a b i d = true ↔ ∀ j, i ≤ j → j < i + d → lowB (byt a j) = lowB (byt b j)
  | 0, i => by simp [sameFrom]; intro j h1 h2; omega
  | d + 1, i => by
    rw [sameFrom, Bool.and_eq_true, sameFrom_iff a b d (i + 1), beq_iff_eq]
    constructor
    · intro ⟨h1, h2⟩ j h3 h4
      rcases Nat.lt_or_ge i j with c | c
      · exact h2 j (by omega) (by omega)
      · rw [show j = i by omega]; exact h1
    · intro h
      exact ⟨h i (by omega) (by omega), fun j h1 h2 => h j (by omega) (by omega)⟩
theorem byt_extract (s : ByteArray) (a e j : Nat) (he : e ≤ s.size) (h : a + j < e) : byt (s.extract a e) j = byt s (a + j) := by
  unfold byt
  congr 1
  rw [List.getD_eq_getElem?_getD, List.getD_eq_getElem?_getD, ByteArray.data_extract, Array.toList_extract]
  congr 1
  rw [List.extract_eq_take_drop, List.getElem?_take, if_pos (by omega), List.getElem?_drop]
theorem eq_of_byt (x y : ByteArray) (hs : x.size = y.size) (h : ∀ j, j < x.size → byt x j = byt y j) : x = y := by
  apply ByteArray.ext
  apply Array.toList_inj.1
  apply List.ext_getElem?
  intro j
  have zx : x.data.toList.length = x.size := by simp
  have zy : y.data.toList.length = y.size := by simp
  rcases Nat.lt_or_ge j x.size with c | c
  · have := h j c
    unfold byt at this
    have hx : j < x.data.toList.length := by omega
    have hy : j < y.data.toList.length := by omega
    rw [List.getD_eq_getElem?_getD, List.getD_eq_getElem?_getD, List.getElem?_eq_getElem hx, List.getElem?_eq_getElem hy] at this
    rw [List.getElem?_eq_getElem hx, List.getElem?_eq_getElem hy]
    congr 1
    exact UInt8.toNat_inj.1 this
  · rw [List.getElem?_eq_none (by omega), List.getElem?_eq_none (by omega)]
theorem ag_eq (t s : ByteArray) (a : Nat) (fold : Bool) (h : a + t.size ≤ s.size) : agFrom t s a fold 0 t.size = true ↔ (s.extract a (a + t.size) = t ∨ (fold = true ∧ sameB t (s.extract a (a + t.size)) = true)) := by
  have hsz : (s.extract a (a + t.size)).size = t.size := by rw [ByteArray.size_extract]; omega
  have hb : ∀ j, j < t.size → byt (s.extract a (a + t.size)) j = byt s (a + j) := fun j hj => byt_extract s a _ j h (by omega)
  rw [agFrom_iff, sameB, sameFrom_iff]
  constructor
  · intro H
    cases fold with
    | false =>
      left
      refine eq_of_byt _ _ hsz (fun j hj => ?_)
      have := H j (by omega) (by omega)
      simp only [okB, Bool.false_and, Bool.or_false, beq_iff_eq] at this
      rw [hb j (by omega), this]
    | true =>
      right
      refine ⟨rfl, fun j h1 h2 => ?_⟩
      have := H j (by omega) (by omega)
      simp only [okB, Bool.true_and, Bool.or_eq_true, beq_iff_eq] at this
      rw [hb j (by omega)]
      rcases this with c | c
      · rw [c]
      · exact c
  · intro H j h1 h2
    unfold okB
    rcases H with c | ⟨rfl, c⟩
    · have := hb j (by omega)
      rw [c] at this
      rw [this]; simp
    · have := c j (by omega) (by omega)
      rw [hb j (by omega)] at this
      simp [this]
theorem againT_at (t s : ByteArray) (n : Nat) (fold : Bool) (h : n + t.size ≤ s.size) : againT t s (n : Int) fold = if agFrom t s n fold 0 t.size = true then ((t.size : Int), true) else (0, false) := by
  unfold againT
  rw [if_pos ⟨by omega, by omega⟩, Int.toNat_natCast]
  by_cases c : agFrom t s n fold 0 t.size = true
  · rw [if_pos ((ag_eq t s n fold h).1 c), if_pos c]
  · rw [if_neg (fun x => c ((ag_eq t s n fold h).2 x)), if_neg c]
attribute [-go_sem] loadVar storeVar
attribute [local go_sem] load3 load4 store4 store23
theorem ref_Text.at {b : List Bool} {p : List Int} {s : ByteArray} {g : Int} {t : ByteArray} {i : Bool} (h : textB b p s g = (t, i)) (w : World) (hb : b.length = 9) (hp : p.length = 18) (hs : s.size ≤ 9223372036854775807) :
    Calls Tryd.prog 14 #[.agg (capsC b p).toArray, .string s, .int .i64 g] w fun e w' => e = .returned (.tuple #[.string t, .bool i]) ∧ Below w.heap.size w w' := by
  have := ref_Text.calls b p s g w hb hp hs
  rw [h] at this
  exact this
set_option maxHeartbeats 2000000 in
set_option maxRecDepth 100000 in
theorem ref_Again.calls (b : List Bool) (p : List Int) (s : ByteArray) (g a : Int) (fold : Bool) (w : World) (hb : b.length = 9) (hp : p.length = 18) (hs : s.size ≤ 140737488355328) :
    Calls Tryd.prog 18 #[.agg (capsC b p).toArray, .string s, .int .i64 g, .int .i64 a, .bool fold] w fun e w' => e = .returned (.tuple #[.int .i64 (againB b p s g a fold).1, .bool (againB b p s g a fold).2]) ∧ Below w.heap.size w w' := by
  have hts := text_size (b := b) (p := p) (s := s) (g := g)
  obtain ⟨⟨t, is⟩, hG⟩ : ∃ x, textB b p s g = x := ⟨_, rfl⟩
  rw [hG] at hts
  simp only at hts
  have HG := Aside0.mk hG
  have h26 := load_caps8 (at_new w 28 (capsC b p)) hb hp
  have HP := Aside0.mk (And.intro hb hp)
  have HA := Aside0.mk ((Below.refl w.heap.size w).alloc (Nat.le_refl _) (.cells (capsC b p).toArray 28))
  have hsz : w.heap.size ≤ (w.alloc (.cells (capsC b p).toArray 28)).heap.size := by simp
  have HS := Aside0.mk hsz
  have HZ := Aside0.mk hs
  clear hG hb hp hsz
  cases is with
  | false =>
    have HT : Aside0 (againB b p s g a fold = (0, false)) := ⟨by unfold againB; rw [HG.out]; rfl⟩
    go_enter Tryd.func18, Tryd.ntmps18
    go_wp2_with fail
    refine (ref_Text.at HG.out _ HP.out.1 HP.out.2 (by have := HZ.out; omega)).mono ?_
    rintro e w1 ⟨rfl, hb1⟩
    go_wp2
    go_ret2
    rw [HT.out]
    exact ⟨rfl, HA.out.trans (hb1.mono HS.out)⟩
  | true =>
    have HT : Aside0 (againB b p s g a fold = againT t s a fold) := ⟨by unfold againB; rw [HG.out]; rfl⟩
    by_cases c1 : 0 ≤ a
    · obtain ⟨n, rfl⟩ := Int.eq_ofNat_of_zero_le c1
      have d1 : decide ((n : Int) < 0) = false := decide_eq_false (by omega)
      by_cases c2 : n ≤ s.size
      · have d2 : decide ((n : Int) > (s.size : Int)) = false := decide_eq_false (by omega)
        have d2' : decide (s.size < n) = false := decide_eq_false (by omega)
        by_cases c3 : n + t.size ≤ s.size
        · have d3 : decide ((t.size : Int) > (s.size : Int) - (n : Int)) = false := decide_eq_false (by omega)
          have d3' : decide ((s.size : Int) - (n : Int) < (t.size : Int)) = false := decide_eq_false (by omega)
          have HR : Aside0 (againT t s n fold = if agFrom t s n fold 0 t.size = true then ((t.size : Int), true) else (0, false)) := ⟨againT_at t s n fold c3⟩
          obtain ⟨N, hN⟩ : ∃ N, t.size = N := ⟨_, rfl⟩
          have HN := Aside0.mk hN
          go_enter Tryd.func18, Tryd.ntmps18
          go_wp2_with fail
          refine (ref_Text.at HG.out _ HP.out.1 HP.out.2 (by have := HZ.out; omega)).mono ?_
          rintro e w1 ⟨rfl, hb1⟩
          go_wp2_with fail
          have HB1 := Aside0.mk (HA.out.trans (hb1.mono HS.out))
          clear hb1
          go_loopw [14] (fun i wr => ∃ j : Nat, i = .int .i64 (j : Int) ∧ j ≤ N ∧ Aside0 (agFrom t s n fold 0 N = agFrom t s n fold j (N - j)) ∧ Aside0 (Below w.heap.size w wr)) (fun i _ => (N : Nat) - (intOf i).toNat)
          case atStart => exact ⟨0, rfl, Nat.zero_le _, ⟨rfl⟩, HB1⟩
          case round =>
            clear HB1
            obtain ⟨j, rfl, hj, HE, HB⟩ := hrel
            by_cases c4 : j < N
            · have e1 : decide ((j : Int) < (N : Int)) = true := decide_eq_true (by omega)
              have e2 : decide (j < N) = true := decide_eq_true c4
              have p1 : 0 ≤ (j : Int) := by omega
              have p2 : (j : Int) < (t.size : Int) := by omega
              have p3 : 0 ≤ (n : Int) + (j : Int) := by omega
              have p4 : (n : Int) + (j : Int) < (s.size : Int) := by omega
              have hx : ∀ h : j < t.size, ((t[j]'h).toNat : Int) = (byt t j : Int) := fun h => by
                rw [← bt_byt t j h]
                exact bt_at t (j : Int) (by rw [Int.toNat_natCast]; exact h)
              have hy : ∀ h : ((n : Int) + (j : Int)).toNat < s.size, ((s[((n : Int) + (j : Int)).toNat]'h).toNat : Int) = (byt s (n + j) : Int) := fun h => by
                rw [← bt_byt s (n + j) (by omega)]
                exact bt_at s ((n : Int) + (j : Int)) h
              have hw : IntKind.i64.wrap ((n : Int) + (j : Int)) = (n : Int) + (j : Int) := IntWalk.i64_in _ (by have := HZ.out; omega)
              have HS1 : Aside0 (agFrom t s n fold j (N - j) = (okB fold (byt t j) (byt s (n + j)) && agFrom t s n fold (j + 1) (N - (j + 1)))) := ⟨by rw [show N - j = (N - (j + 1)) + 1 by omega, agFrom]⟩
              have hjb : (j : Int) ≤ 10000 := by omega
              generalize byt t j = X at hx HS1
              generalize byt s (n + j) = Y at hy HS1
              clear hs hts HS
              replace p1 := eq_true p1
              replace p2 := eq_true p2
              replace p3 := eq_true p3
              replace p4 := eq_true p4
              by_cases c5 : X = Y
              · subst c5
                have HO : Aside0 (okB fold X X = true) := ⟨by unfold okB; simp⟩
                go_wp2_with fail
                go_quiet (fail)
                go_wp2_with fail
                go_roundw
                case measure => simp [intOf]; omega
                case rel => exact ⟨j + 1, by go_num, by omega, ⟨by rw [HE.out, HS1.out, HO.out, Bool.true_and]⟩, ⟨pw_below_drewN HB.out _⟩⟩
              · have g1 : ((X : Int) != (Y : Int)) = true := bne_iff_ne.2 (by omega)
                have g2 : ((X : Int) == (Y : Int)) = false := beq_eq_false_iff_ne.2 (by omega)
                cases fold with
                | false =>
                  have HO : Aside0 (okB false X Y = false) := ⟨by unfold okB; simp [c5]⟩
                  clear c5
                  go_wp2_with fail
                  go_quiet (fail)
                  go_wp2_with fail
                  go_ret2
                  rw [HT.out, HR.out, HN.out, HE.out, HS1.out, HO.out]
                  exact ⟨rfl, pw_below_drewN HB.out _⟩
                | true =>
                  by_cases c6 : lowB X = lowB Y
                  · have HO : Aside0 (okB true X Y = true) := ⟨by unfold okB; simp [c6]⟩
                    have HX := Aside0.mk c6
                    clear c5 c6
                    go_wp2_with fail
                    go_quiet (fail)
                    go_wp2_with fail
                    refine (clewref10_lower.calls (X : Int) (lowB X : Int) _ (lower_ref X)).mono ?_
                    rintro e w3 ⟨rfl, n3, rfl⟩
                    go_wp2_with fail
                    refine (clewref10_lower.calls (Y : Int) (lowB X : Int) _ (by rw [HX.out]; exact lower_ref Y)).mono ?_
                    rintro e w4 ⟨rfl, n4, rfl⟩
                    go_wp2_with fail
                    go_roundw
                    case measure => simp [intOf]; omega
                    case rel => exact ⟨j + 1, by go_num, by omega, ⟨by rw [HE.out, HS1.out, HO.out, Bool.true_and]⟩, ⟨pw_below_drewN HB.out _⟩⟩
                  · have HO : Aside0 (okB true X Y = false) := ⟨by unfold okB; simp [c5, c6]⟩
                    have g3 : ((lowB X : Int) == (lowB Y : Int)) = false := beq_eq_false_iff_ne.2 (by omega)
                    have g4 : ((lowB X : Int) != (lowB Y : Int)) = true := bne_iff_ne.2 (by omega)
                    clear c5 c6
                    go_wp2_with fail
                    go_quiet (fail)
                    go_wp2_with fail
                    refine (clewref10_lower.calls (X : Int) (lowB X : Int) _ (lower_ref X)).mono ?_
                    rintro e w3 ⟨rfl, n3, rfl⟩
                    go_wp2_with fail
                    refine (clewref10_lower.calls (Y : Int) (lowB Y : Int) _ (lower_ref Y)).mono ?_
                    rintro e w4 ⟨rfl, n4, rfl⟩
                    go_wp2_with fail
                    go_ret2
                    rw [HT.out, HR.out, HN.out, HE.out, HS1.out, HO.out]
                    exact ⟨rfl, pw_below_drewN HB.out _⟩
            · have e1 : decide ((j : Int) < (N : Int)) = false := decide_eq_false (by omega)
              have e2 : decide (j < N) = false := decide_eq_false c4
              have HD : Aside0 (N - j = 0) := ⟨by omega⟩
              go_wp2_with fail
              go_ret2
              rw [HT.out, HR.out, HN.out, HE.out, HD.out]
              exact ⟨rfl, HB.out⟩
        · have d3 : decide ((t.size : Int) > (s.size : Int) - (n : Int)) = true := decide_eq_true (by omega)
          have d3' : decide ((s.size : Int) - (n : Int) < (t.size : Int)) = true := decide_eq_true (by omega)
          have HR : Aside0 (againT t s n fold = (0, false)) := ⟨by unfold againT; rw [if_neg (by omega)]⟩
          go_enter Tryd.func18, Tryd.ntmps18
          go_wp2_with fail
          refine (ref_Text.at HG.out _ HP.out.1 HP.out.2 (by have := HZ.out; omega)).mono ?_
          rintro e w1 ⟨rfl, hb1⟩
          go_wp2
          go_ret2
          rw [HT.out, HR.out]
          exact ⟨rfl, HA.out.trans (hb1.mono HS.out)⟩
      · have d2 : decide ((n : Int) > (s.size : Int)) = true := decide_eq_true (by omega)
        have d2' : decide (s.size < n) = true := decide_eq_true (by omega)
        have HR : Aside0 (againT t s n fold = (0, false)) := ⟨by unfold againT; rw [if_neg (by omega)]⟩
        go_enter Tryd.func18, Tryd.ntmps18
        go_wp2_with fail
        refine (ref_Text.at HG.out _ HP.out.1 HP.out.2 (by have := HZ.out; omega)).mono ?_
        rintro e w1 ⟨rfl, hb1⟩
        go_wp2
        go_ret2
        rw [HT.out, HR.out]
        exact ⟨rfl, HA.out.trans (hb1.mono HS.out)⟩
    · have d1 : decide (a < 0) = true := decide_eq_true (by omega)
      have HR : Aside0 (againT t s a fold = (0, false)) := ⟨by unfold againT; rw [if_neg (by omega)]⟩
      go_enter Tryd.func18, Tryd.ntmps18
      go_wp2_with fail
      refine (ref_Text.at HG.out _ HP.out.1 HP.out.2 (by have := HZ.out; omega)).mono ?_
      rintro e w1 ⟨rfl, hb1⟩
      go_wp2
      go_ret2
      rw [HT.out, HR.out]
      exact ⟨rfl, HA.out.trans (hb1.mono HS.out)⟩
end Go.Proofs.YtcgcoblecpbgbaaDoor.CP
