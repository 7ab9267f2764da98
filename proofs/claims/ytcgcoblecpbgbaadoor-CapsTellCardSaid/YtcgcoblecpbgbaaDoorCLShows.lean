/- CapsShows: the walk. -/
import Derived.Test.YtcgcoblecpbgbaaDoorCOrder
import Derived.Test.YtcgcoblecpbgbaaDoorCJoin
namespace Go.Proofs.YtcgcoblecpbgbaaDoor.CP
open Go.RowKit Go.Proofs.YtcgcoblecpbgbaaDoorW.PrintWords Go.Proofs.YtcgcoblecpbgbaaDoorW.PrintLast Go.Proofs.YtcgcoblecpbgbaaDoorW.PrintMore
attribute [local go_sem] max2_int min2_int max_two min_two max_three min_three max_four min_four
set_option linter.unusedVariables false
set_option linter.unusedSimpArgs false
def law_Shows.T2 : Bool × List (List Nat × List Nat) := (true, [([], []), ([], []), ([0, 1], [0, 1]), ([], []), ([], []), ([4], [4]), ([3, 5, 2], [3, 5]), ([2, 6, 0, 1, 2], [2]), ([6, 7, 0, 1, 2, 3, 4, 5, 6, 7], [6])])
def law_Shows.B2 : List Nat := [0, 0, 3, 0, 0, 16, 63, 127, 255]
theorem law_Shows.tab2 : rtab .any (opsOf Tryd.f7 2) = law_Shows.T2 := by kernel_rfl
theorem law_Shows.bits2 : waitsOk law_Shows.T2.2 law_Shows.B2 = true := by kernel_rfl
theorem show_any {b : List Bool} {p : List Int} (n : Int) (w : World) (hb : b.length = 9) (hp : p.length = 18) (hw : Wf p) (hT : TabW w) :
    Calls Tryd.prog 15 #[.agg (capsC b p).toArray, .int .i64 n] w fun e w' => e = .returned (.string (showB b p n)) ∧ Below w.heap.size w w' := by
  refine caps_Show.calls b p n w hb hp hw hT ?_
  have h1 := showL_len (b := b) hw (showN n)
  have h2 : showN n ≤ 9 := by unfold showN; split <;> omega
  show (showL b p (showN n)).length ≤ _
  omega
def cnt (A : ByteArray) (j : Nat) : Nat := (A.data.toList.take j).count 44
theorem cnt_succ (A : ByteArray) (j : Nat) (h : j < A.size) : cnt A (j + 1) = cnt A j + if byt A j = 44 then 1 else 0 := by
  have hl : j < A.data.toList.length := by simpa using h
  unfold cnt
  rw [List.take_succ_eq_append_getElem hl, List.count_append, List.count_singleton]
  congr 1
  have e : byt A j = (A.data.toList[j]).toNat := by
    unfold byt
    rw [List.getD_eq_getElem?_getD, List.getElem?_eq_getElem hl]
    rfl
  rw [e]
  generalize A.data.toList[j] = x
  by_cases c : x = 44
  · subst c; rfl
  · rw [if_neg (by simpa using c), if_neg (show ¬ x.toNat = 44 from fun h => c (UInt8.toNat_inj.1 h))]
theorem cnt_le (A : ByteArray) (j : Nat) : cnt A j ≤ j := by
  unfold cnt
  have := List.count_le_length (a := (44 : UInt8)) (l := A.data.toList.take j)
  have := List.length_take_le j A.data.toList
  omega
theorem cnt_all (A : ByteArray) (j : Nat) (h : A.size ≤ j) : cnt A j = A.data.toList.count 44 := by
  unfold cnt
  rw [List.take_of_length_le (by simpa using h)]
theorem show_neg (b : List Bool) (p : List Int) (k : Nat) : showB b p (-(k : Int)) = ⟨#[]⟩ := by
  have : showN (-(k : Int)) = 0 := by unfold showN; split <;> omega
  apply ByteArray.ext
  apply Array.toList_inj.1
  rw [showB_data, this]
  rfl
theorem shows_facts (b : List Bool) (p : List Int) (k : Nat) : (showB b p (k : Int)).size ≤ (showB b p ((k : Int) + 1)).size ∧ (showB b p ((k : Int) + 1)).extract 0 (showB b p (k : Int)).size = showB b p (k : Int) ∧ (9 ≤ k → showB b p ((k : Int) + 1) = showB b p (k : Int)) := by
  have hs : ∀ n : Int, (showB b p n).size = (showL b p (showN n)).length := fun n => by rw [← showB_data]; simp
  have hd : ∃ r, (showB b p ((k : Int) + 1)).data.toList = (showB b p (k : Int)).data.toList ++ r := by
    rw [showB_data, showB_data]
    by_cases c : 9 ≤ k
    · refine ⟨[], ?_⟩
      rw [show showN ((k : Int) + 1) = showN (k : Int) by unfold showN; split <;> split <;> omega, List.append_nil]
    · rw [show showN ((k : Int) + 1) = showN (k : Int) + 1 by unfold showN; split <;> split <;> omega]
      exact showL_begins b p _
  obtain ⟨r, hr⟩ := hd
  have hz : (showB b p (k : Int)).data.toList.length = (showB b p (k : Int)).size := by simp
  refine ⟨?_, ?_, ?_⟩
  · have h1 : (showB b p ((k : Int) + 1)).data.toList.length = (showB b p ((k : Int) + 1)).size := by simp
    rw [hr, List.length_append] at h1
    omega
  · apply ByteArray.ext
    apply Array.toList_inj.1
    rw [ByteArray.data_extract, Array.toList_extract, List.extract_eq_take_drop, List.drop_zero, Nat.sub_zero, hr, List.take_append_of_le_length (by omega), List.take_of_length_le (by omega)]
  · intro c
    unfold showB
    rw [show showN ((k : Int) + 1) = showN (k : Int) by unfold showN; split <;> split <;> omega]
attribute [-go_sem] loadVar storeVar
attribute [local go_sem] load3 load4 load5 store4 store23
set_option maxHeartbeats 4000000 in
set_option maxRecDepth 100000 in
theorem law_Shows.calls (b : List Bool) (p : List Int) (n : Nat) (w : World) (hb : b.length = 9) (hp : p.length = 18) (hw : Wf p) (hT : TabW w) (hn : n < 256) :
    Calls Tryd.prog 7 #[.agg (capsC b p).toArray, .int .u8 n] w fun e w' => e = .returned (.bool true) ∧ Below w.heap.size w w' := by
  have HW := Aside0.mk hw
  have HP := Aside0.mk (And.intro hb hp)
  have HA := Aside0.mk ((Below.refl w.heap.size w).alloc (Nat.le_refl _) (.cells (capsC b p).toArray 26))
  have HT := Aside0.mk (hT.below HA.out)
  have HL := Aside0.mk (lies_new w 26 b p hb hp)
  obtain ⟨k, hk⟩ : ∃ k : Nat, n % 12 = k := ⟨_, rfl⟩
  have hk12 : k < 12 := by omega
  have e1 : Int.tmod (n : Int) 12 = (k : Int) := by rw [Int.tmod_eq_emod_of_nonneg (by omega)]; omega
  have e1' : (n : Int) % 12 = (k : Int) := by omega
  have e2 : wrap64 ((k : Int) + 1) = (k : Int) + 1 := by unfold wrap64; omega
  clear hb hp hw hT hk
  go_enter Tryd.func7, Tryd.ntmps7
  go_wp2_with fail
  refine start_ (n := 9) (S := fun w' => Lies w' w.heap.size 26 b p) (ds := []) #[false, false, false, false, false, false, false, false, false] (by kernel_rfl) rfl rfl (HL.out.far rfl) (fun hHeld => ?_); refine with_tabW law_Shows.tab2 law_Shows.bits2 (fun HT_ HW_ => ?_)
  have HB := Aside0.mk (below_drew1 HA.out)
  have HTb := Aside0.mk (HT.out.below (below_drew1 (Below.refl _ _)))
  clear HA HT HL
  generalize World.drew (World.alloc w _) = W0 at HB HTb hHeld ⊢
  refine take_ (i := 0) (N := some 13) (v := ?_) (a' := ?_) #[true, false, false, false, false, false, false, false, false] rfl rfl (take_ofW HT_.out HW_.out (by kernel_rfl)) (fun _ _ _ h => h) (Or.inl ⟨by rfl, ?_⟩) hHeld ?_ ?_
  rotate_left
  · intro w' hs
    have hl := Lies.load hs
    go_simp
    with_reducible rfl
  rotate_left
  · simp only [Act.put, List.setIfInBounds_toArray, List.set_cons_zero, List.set_cons_succ, i64_w, i32_w, e2]
    rfl
  refine pure_ (i := 1) (N := some 14) (v := ?_) (a' := ?_) #[true, true, false, false, false, false, false, false, false] rfl rfl (any_of HT_.out (by kernel_rfl)) (fun _ _ _ h => h) (Or.inl ⟨by rfl, ?_⟩) ?_ ?_
  rotate_left
  · intro w'
    go_simp
    with_reducible rfl
  rotate_left
  · simp only [Act.put, List.setIfInBounds_toArray, List.set_cons_zero, List.set_cons_succ, i64_w, i32_w, e2]
    rfl
  refine take_ (i := 3) (N := some 16) (v := ?_) (a' := ?_) #[true, true, false, true, false, false, false, false, false] rfl rfl (take_ofW HT_.out HW_.out (by kernel_rfl)) (fun _ _ _ h => h) (Or.inl ⟨by rfl, ?_⟩) hHeld ?_ ?_
  rotate_left
  · intro w' hs
    have hl := Lies.load hs
    go_simp
    with_reducible rfl
  rotate_left
  · simp only [Act.put, List.setIfInBounds_toArray, List.set_cons_zero, List.set_cons_succ, i64_w, i32_w, e2]
    rfl
  refine pure_ (i := 4) (N := some 17) (v := ?_) (a' := ?_) #[true, true, false, true, true, false, false, false, false] rfl rfl (any_of HT_.out (by kernel_rfl)) (fun _ _ _ h => h) (Or.inl ⟨by rfl, ?_⟩) ?_ ?_
  rotate_left
  · intro w'
    go_simp
    with_reducible rfl
  rotate_left
  · simp only [Act.put, List.setIfInBounds_toArray, List.set_cons_zero, List.set_cons_succ, i64_w, i32_w, e2]
    rfl
  refine pure_ (i := 5) (N := some 18) (v := ?_) (a' := ?_) #[true, true, false, true, true, true, false, false, false] rfl rfl (any_of HT_.out (by kernel_rfl)) (fun _ _ _ h => h) (Or.inl ⟨by rfl, ?_⟩) ?_ ?_
  rotate_left
  · intro w'
    go_simp
    with_reducible rfl
  rotate_left
  · simp only [Act.put, List.setIfInBounds_toArray, List.set_cons_zero, List.set_cons_succ, i64_w, i32_w, e2]
    rfl
  refine one_ (i := 2) (N := some 15) #[true, true, true, true, true, true, false, false, false] rfl rfl (one_of HT_.out (by kernel_rfl)) (by decide) (fun K hK => ?_)
  refine goes_ Tryd.func15 (by kernel_rfl) rfl #[.agg (capsC b p).toArray, .int .i64 (k : Int)] (by rfl) rfl rfl (by (try simp only [List.map_toArray, List.map_cons, List.map_nil]); first | rfl | (simp only [Act.eval]; rfl)) ?_
  with_reducible refine (show_any (k : Int) _ HP.out.1 HP.out.2 HW.out HTb.out).mono ?_
  rintro e w6 ⟨rfl, hb⟩
  refine ⟨_, rfl, ?_⟩
  have HB' := Aside0.mk (HB.out.trans (hb.mono HB.out.size))
  have HT' := Aside0.mk (HTb.out.below hb)
  have HH := hHeld.on hb
  clear HB HTb hHeld
  have HB := HB'
  have HTb := HT'
  clear HB' HT' hb
  refine hK.out _ _ HH (fun hHeld => ?_)
  clear hK K HH
  refine norm_ (a' := ?_) ?_ ?_
  rotate_left
  · show Act.put _ (some 15) _ = _
    simp only [Act.put, List.setIfInBounds_toArray, List.set_cons_zero, List.set_cons_succ, i64_w, i32_w, e2]
    rfl
  refine one_ (i := 6) (N := some 19) #[true, true, true, true, true, true, true, false, false] rfl rfl (one_of HT_.out (by kernel_rfl)) (by decide) (fun K hK => ?_)
  refine goes_ Tryd.func15 (by kernel_rfl) rfl #[.agg (capsC b p).toArray, .int .i64 ((k : Int) + 1)] (by rfl) rfl rfl (by (try simp only [List.map_toArray, List.map_cons, List.map_nil]); first | rfl | (simp only [Act.eval]; rfl)) ?_
  with_reducible refine (show_any ((k : Int) + 1) _ HP.out.1 HP.out.2 HW.out HTb.out).mono ?_
  rintro e w7 ⟨rfl, hb⟩
  refine ⟨_, rfl, ?_⟩
  have HB' := Aside0.mk (HB.out.trans (hb.mono HB.out.size))
  have HT' := Aside0.mk (HTb.out.below hb)
  have HH := hHeld.on hb
  clear HB HTb hHeld
  have HB := HB'
  have HTb := HT'
  clear HB' HT' hb
  refine hK.out _ _ HH (fun hHeld => ?_)
  clear hK K HH
  refine norm_ (a' := ?_) ?_ ?_
  rotate_left
  · show Act.put _ (some 19) _ = _
    simp only [Act.put, List.setIfInBounds_toArray, List.set_cons_zero, List.set_cons_succ, i64_w, i32_w, e2]
    rfl
  refine pure_ (i := 7) (N := some 6) (v := ?_) (a' := ?_) #[true, true, true, true, true, true, true, true, false] rfl rfl (any_of HT_.out (by kernel_rfl)) (fun _ _ _ h => h) (Or.inl ⟨by rfl, ?_⟩) ?_ ?_
  rotate_left
  · intro w'
    go_simp
    with_reducible rfl
  rotate_left
  · simp only [Act.put, List.setIfInBounds_toArray, List.set_cons_zero, List.set_cons_succ, i64_w, i32_w, e2]
    rfl
  refine pure_ (i := 8) (N := some 7) (v := ?_) (a' := ?_) #[true, true, true, true, true, true, true, true, true] rfl rfl (any_of HT_.out (by kernel_rfl)) (fun _ _ _ h => h) (Or.inl ⟨by rfl, ?_⟩) ?_ ?_
  rotate_left
  · intro w'
    go_simp
    with_reducible rfl
  rotate_left
  · simp only [Act.put, List.setIfInBounds_toArray, List.set_cons_zero, List.set_cons_succ, i64_w, i32_w, e2]
    rfl
  refine done_ (done_of HT_.out (by kernel_rfl)) ?_
  clear HT_ HW_
  obtain ⟨m, hm⟩ : ∃ m : Nat, showN (k : Int) = m := ⟨_, rfl⟩
  have hm1 : (if 9 < (k : Int) then 9 else (k : Int)) = (m : Int) := by rw [← hm]; unfold showN; split <;> omega
  have hm9 : m ≤ 9 ∧ (m = 0 ↔ k = 0) := by rw [← hm]; unfold showN; split <;> omega
  have hAd := showB_data b p (k : Int)
  rw [hm] at hAd
  have HF := Aside0.mk (shows_facts b p k)
  have H0 : Aside0 (showB b p (-(k : Int)) = ⟨#[]⟩) := ⟨show_neg b p k⟩
  have hlen := showL_len (b := b) HW.out m
  generalize showB b p (k : Int) = A at hAd HF ⊢
  generalize showB b p ((k : Int) + 1) = B at HF ⊢
  have hcnt : A.data.toList.count 44 = m - 1 := by rw [hAd]; exact showL_count b p m
  have hemp : m = 0 → A = ⟨#[]⟩ := by
    intro h
    subst h
    exact ByteArray.ext (Array.toList_inj.1 hAd)
  have hne : m ≠ 0 → A.data.toList ≠ [] := by
    intro h
    rw [hAd]
    obtain ⟨q, rfl⟩ : ∃ q, m = q + 1 := ⟨m - 1, by omega⟩
    exact showL_ne b p q
  obtain ⟨N, hN⟩ : ∃ N, A.size = N := ⟨_, rfl⟩
  have hN4 : N ≤ 396 := by
    have h1 : A.data.toList.length = A.size := by simp
    rw [hAd] at h1
    omega
  have HC := Aside0.mk (And.intro hcnt (And.intro hemp hne))
  have HM := Aside0.mk hm9
  have HN := Aside0.mk hN
  clear hcnt hemp hne hm9 hAd hlen hm
  go_wp2_with fail
  go_loop [8, 9] (fun q i => ∃ j : Nat, q = .int .i64 ((cnt A j : Nat) : Int) ∧ i = .int .i64 (j : Int) ∧ j ≤ N) (fun _ i => (N : Nat) - (intOf i).toNat)
  case atStart => exact ⟨0, rfl, rfl, Nat.zero_le _⟩
  case round =>
    obtain ⟨j, rfl, rfl, hj⟩ := hrel
    by_cases c4 : j < N
    · have e3 : decide ((j : Int) < (N : Int)) = true := decide_eq_true (by omega)
      have e4 : decide (j < N) = true := decide_eq_true c4
      have p1 : 0 ≤ (j : Int) := by omega
      have p2 : (j : Int) < (A.size : Int) := by omega
      have hx : ∀ h : j < A.size, ((A[j]'h).toNat : Int) = (byt A j : Int) := fun h => by
        rw [← bt_byt A j h]
        exact bt_at A (j : Int) (by rw [Int.toNat_natCast]; exact h)
      have HS := Aside0.mk (cnt_succ A j (by omega))
      have hc := cnt_le A j
      generalize byt A j = X at hx HS
      have HX := Aside0.mk (And.intro hj c4)
      replace p1 := eq_true p1
      replace p2 := eq_true p2
      by_cases c5 : X = 44
      · have g1 : ((X : Int) == 44) = true := beq_iff_eq.2 (by omega)
        have HS2 : Aside0 (cnt A (j + 1) = cnt A j + 1) := ⟨by rw [HS.out, if_pos c5]⟩
        clear c5
        go_wp2_with fail
        go_round
        case measure => simp [intOf]; omega
        case rel => exact ⟨j + 1, by rw [HS2.out]; go_num, by go_num, by omega⟩
      · have g1 : ((X : Int) == 44) = false := beq_eq_false_iff_ne.2 (by omega)
        have HS2 : Aside0 (cnt A (j + 1) = cnt A j) := ⟨by rw [HS.out, if_neg c5]; rfl⟩
        clear c5
        go_wp2_with fail
        go_round
        case measure => simp [intOf]; omega
        case rel => exact ⟨j + 1, by rw [HS2.out], by go_num, by omega⟩
    · have e3 : decide ((j : Int) < (N : Int)) = false := decide_eq_false (by omega)
      have e4 : decide (j < N) = false := decide_eq_false c4
      have HJ : Aside0 (cnt A j = m - 1) := ⟨by rw [← HC.out.1]; exact cnt_all A j (by omega)⟩
      obtain ⟨f1, f2, f3⟩ := HF.out
      have o1 : decide ((B.size : Int) < (N : Int)) = false := decide_eq_false (by omega)
      have o2 : decide (B.size < N) = false := decide_eq_false (by omega)
      have o3 : (0 : Int) ≤ 0 := Int.le_refl 0
      have o4 : (N : Int) ≤ (B.size : Int) := by omega
      rw [hN] at f2
      have o5 : ((B.extract 0 N).toList != A.toList) = false := bne_eq_false_iff_eq.2 (by rw [f2])
      have o6 : ((B.extract 0 N).toList == A.toList) = true := beq_iff_eq.2 (by rw [f2])
      have o5' : (A.toList != (B.extract 0 N).toList) = false := bne_eq_false_iff_eq.2 (by rw [f2])
      have q1 : ((⟨#[]⟩ : ByteArray).toList == ([] : List UInt8)) = true := by decide +kernel
      by_cases c6 : k = 0
      · have hA : A = ⟨#[]⟩ := HC.out.2.1 (HM.out.2.2 c6)
        have r1 : (A.toList != ([] : List UInt8)) = false := by rw [hA]; decide +kernel
        have r2 : A.toList = [] := by rw [hA]; decide +kernel
        have r3 : (!A.toList.isEmpty) = false := by rw [r2]; rfl
        have r4 : A.toList.isEmpty = true := by rw [r2]; rfl
        have HR2 := Aside0.mk r2
        have r5 : ((cnt A j : Nat) : Int) = (m : Int) := by rw [HJ.out]; have := HM.out.2.2 c6; omega
        have r6 : (((cnt A j : Nat) : Int) != (m : Int)) = false := bne_eq_false_iff_eq.2 r5
        have r7 : decide ((k : Int) < 9) = true := decide_eq_true (by omega)
        have hld := hHeld.load
        clear c6 f1 f2 f3 r2 r5 hA
        go_wp2_with fail
        refine (show_any (-(k : Int)) _ HP.out.1 HP.out.2 HW.out HTb.out).mono ?_
        rintro e w8 ⟨rfl, hb⟩
        rw [H0.out]
        have HB8 := Aside0.mk (HB.out.trans (hb.mono HB.out.size))
        have HT8 := Aside0.mk (HTb.out.below hb)
        clear hb hld
        go_wp2_with fail
        refine (law_fixed.calls _ HT8.out).mono ?_
        rintro e w9 ⟨rfl, hb⟩
        go_wp2
        go_ret
        exact ⟨rfl, HB8.out.trans (hb.mono HB8.out.size)⟩
      · have hA : A.toList ≠ [] := by rw [ByteArray.toList_eq]; exact HC.out.2.2 (fun h => c6 (HM.out.2.1 h))
        have r1 : (A.toList != ([] : List UInt8)) = true := bne_iff_ne.2 hA
        have r3 : (!A.toList.isEmpty) = true := by cases h : A.toList with | nil => exact absurd h hA | cons _ _ => rfl
        have r4 : A.toList.isEmpty = false := by cases h : A.toList with | nil => exact absurd h hA | cons _ _ => rfl
        have r8 := HC.out.1
        have r5 : ((cnt A j : Nat) : Int) + 1 = (m : Int) := by rw [HJ.out]; have := HM.out.2; omega
        have r6 : (((cnt A j : Nat) : Int) + 1 != (m : Int)) = false := bne_eq_false_iff_eq.2 r5
        have rc := cnt_le A j
        have hld := hHeld.load
        by_cases c7 : k < 9
        · have r7 : decide ((k : Int) < 9) = true := decide_eq_true (by omega)
          clear c6 f1 f2 f3 r5 r8 hA
          go_wp2_with fail
          refine (show_any (-(k : Int)) _ HP.out.1 HP.out.2 HW.out HTb.out).mono ?_
          rintro e w8 ⟨rfl, hb⟩
          rw [H0.out]
          have HB8 := Aside0.mk (HB.out.trans (hb.mono HB.out.size))
          have HT8 := Aside0.mk (HTb.out.below hb)
          clear hb hld
          go_wp2_with fail
          refine (law_fixed.calls _ HT8.out).mono ?_
          rintro e w9 ⟨rfl, hb⟩
          go_wp2
          go_ret
          exact ⟨rfl, HB8.out.trans (hb.mono HB8.out.size)⟩
        · have r7 : decide ((k : Int) < 9) = false := decide_eq_false (by omega)
          have fe := f3 (by omega)
          have s1 : (A.toList == B.toList) = true := beq_iff_eq.2 (by rw [fe])
          have s2 : (A.toList != B.toList) = false := bne_eq_false_iff_eq.2 (by rw [fe])
          clear c6 f1 f2 f3 r5 r8 hA fe
          go_wp2_with fail
          refine (show_any (-(k : Int)) _ HP.out.1 HP.out.2 HW.out HTb.out).mono ?_
          rintro e w8 ⟨rfl, hb⟩
          rw [H0.out]
          have HB8 := Aside0.mk (HB.out.trans (hb.mono HB.out.size))
          have HT8 := Aside0.mk (HTb.out.below hb)
          clear hb hld
          go_wp2_with fail
          refine (law_fixed.calls _ HT8.out).mono ?_
          rintro e w9 ⟨rfl, hb⟩
          go_wp2
          go_ret
          exact ⟨rfl, HB8.out.trans (hb.mono HB8.out.size)⟩
end Go.Proofs.YtcgcoblecpbgbaaDoor.CP
