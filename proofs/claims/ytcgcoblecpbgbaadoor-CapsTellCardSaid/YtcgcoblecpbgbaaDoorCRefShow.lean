/- The document's Show. -/
import Derived.Test.YtcgcoblecpbgbaaDoorCNumber
import Derived.Test.YtcgcoblecpbgbaaDoorCJoin
import Derived.Test.YtcgcoblecpbgbaaDoorCOrder
import Derived.Deep.RegionHeld3
namespace Go.Proofs.YtcgcoblecpbgbaaDoor.CP
open Go.RowKit Go.Proofs.YtcgcoblecpbgbaaDoorW.PrintWords Go.Proofs.YtcgcoblecpbgbaaDoorW.PrintLast Go.Proofs.YtcgcoblecpbgbaaDoorW.PrintMore
attribute [local go_sem] max2_int min2_int max_two min_two max_three min_three max_four min_four
set_option linter.unusedVariables false
set_option linter.unusedSimpArgs false
def sB (b : List Bool) (p : List Int) (j : Nat) : ByteArray := ⟨(showL b p j).toArray⟩
theorem sB_show (b : List Bool) (p : List Int) (n : Int) : showB b p n = sB b p (showN n) := rfl
theorem sB_one (b : List Bool) (p : List Int) : sB b p 1 = itemB b p 1 := by
  apply ByteArray.ext
  apply Array.toList_inj.1
  show showL b p (0 + 1) = _
  rw [showL_succ, if_pos rfl]
theorem add_str (x y : ByteArray) (w : World) (h : x.size + y.size ≤ 9223372036854775807) : (binOp .add 9 (.string x) (.string y)).run Tryd.prog w = .ok (.string (x ++ y)) w := by
  go_simp
theorem sB_zero (b : List Bool) (p : List Int) : sB b p 0 ++ itemB b p (((0 : Nat) : Int) + 1) = sB b p (0 + 1) := by
  rw [sB_one]
  apply ByteArray.ext
  rw [ByteArray.data_append]
  apply Array.toList_inj.1
  rw [Array.toList_append]
  rfl
theorem sB_succ (b : List Bool) (p : List Int) (j : Nat) (h : j ≠ 0) : sB b p (j + 1) = sB b p j ++ comma ++ itemB b p ((j : Int) + 1) := by
  apply ByteArray.ext
  rw [ByteArray.data_append, ByteArray.data_append]
  apply Array.toList_inj.1
  rw [Array.toList_append, Array.toList_append]
  show showL b p (j + 1) = showL b p j ++ [44] ++ _
  rw [showL_succ, if_neg h]
  simp
theorem sB_size {b : List Bool} {p : List Int} (hw : Wf p) (j : Nat) : (sB b p j).size ≤ j * 44 := by
  have := showL_len (b := b) hw j
  show (showL b p j).toArray.size ≤ _
  simpa using this
theorem item_yes {b : List Bool} {p : List Int} {j : Nat} (hj : j < 9) (hb : b.getD j false = true) : itemB b p ((j : Int) + 1) = itoaS (p.getD (j * 2) 0) ++ dash ++ itoaS (p.getD (j * 2 + 1) 0) := by
  have hh : hasB b ((j : Int) + 1) = true := by
    unfold hasB
    rw [decide_eq_true (by omega), decide_eq_true (by omega), show ((j : Int) + 1 - 1).toNat = j by omega, hb]
    rfl
  unfold itemB getB
  rw [if_pos hh, show ((j : Int) + 1).toNat - 1 = j by omega, Nat.mul_comm 2 j]
  rfl
theorem item_no {b : List Bool} {p : List Int} {j : Nat} (hj : j < 9) (hb : b.getD j false = false) : itemB b p ((j : Int) + 1) = quest := by
  have hh : hasB b ((j : Int) + 1) = false := by
    unfold hasB
    rw [decide_eq_true (by omega), decide_eq_true (by omega), show ((j : Int) + 1 - 1).toNat = j by omega, hb]
    rfl
  unfold itemB
  rw [getB_none b p hh]
  rfl
theorem cell_on {w w' : World} {a : Addr} {v : Value} (h : w.cell? a = some v) (hb : Below w.heap.size w w') : w'.cell? a = some v := by
  have hlt : a.block < w.heap.size := World.block_lt_of_cell? w _ h
  exact (hb.cell hlt).trans h
theorem held_keep {wr W w' : World} {a c : Addr} {x y : Value} (hb : Below W.heap.size W w') (h : W.cell? a = some x ∧ W.cell? c = some y ∧ Below wr.heap.size wr W) : w'.cell? a = some x ∧ w'.cell? c = some y ∧ Below wr.heap.size wr w' :=
  ⟨cell_on h.1 hb, cell_on h.2.1 hb, h.2.2.trans (hb.mono h.2.2.size)⟩
theorem held_start {wr : World} {a c : Addr} {x y : Value} (h : wr.cell? a = some x) (h2 : wr.cell? c = some y) : wr.drew.cell? a = some x ∧ wr.drew.cell? c = some y ∧ Below wr.heap.size wr wr.drew := ⟨h, h2, below_drew1 (Below.refl _ _)⟩
attribute [-go_sem] loadVar storeVar
attribute [local go_sem] load3 load4 store4 store23
set_option maxHeartbeats 2000000 in
set_option maxRecDepth 100000 in
theorem ref_Show.calls (b : List Bool) (p : List Int) (n : Int) (w : World) (hb : b.length = 9) (hp : p.length = 18) (hw : Wf p) :
    Calls Tryd.prog 16 #[.agg (capsC b p).toArray, .int .i64 n] w fun e w' => e = .returned (.string (showB b p n)) ∧ Below w.heap.size w w' := by
  have HP := Aside0.mk (And.intro hb hp)
  have HW := Aside0.mk hw
  have HA := Aside0.mk ((Below.refl w.heap.size w).alloc (Nat.le_refl _) (.cells (capsC b p).toArray 28))
  have HL := Aside0.mk (lies_new w 28 b p hb hp)
  have HZ : Aside0 ((w.alloc (.cells (capsC b p).toArray 28)).heap.size = w.heap.size + 1) := ⟨by simp⟩
  clear hb hp hw
  go_enter Tryd.func16, Tryd.ntmps16
  go_wp2_with fail
  generalize w.alloc (.cells (capsC b p).toArray 28) = wa at HA HL HZ ⊢
  go_loopw [5, 6] (fun s g wr => ∃ j : Nat, s = .string (sB b p j) ∧ g = .int .i64 ((j : Int) + 1) ∧ j ≤ 9 ∧ Aside0 (j ≤ showN n) ∧ Aside0 (Below wa.heap.size wa wr)) (fun _ g _ => 20 - (intOf g).toNat)
  case atStart => exact ⟨0, rfl, rfl, Nat.zero_le _, ⟨Nat.zero_le _⟩, ⟨Below.refl _ _⟩⟩
  case round =>
    obtain ⟨j, rfl, rfl, hj, HJ, HB⟩ := hrel
    by_cases c : (j : Int) + 1 ≤ n ∧ j < 9
    · obtain ⟨c1, c2⟩ := c
      have d1 : decide ((j : Int) + 1 ≤ n) = true := decide_eq_true c1
      have d2 : decide ((j : Int) + 1 ≤ 9) = true := decide_eq_true (by omega)
      have HJ2 : Aside0 (j + 1 ≤ showN n) := ⟨by unfold showN; split <;> omega⟩
      have hs := sB_size (b := b) HW.out j
      have hL : Lies wr w.heap.size 28 b p := HL.out.on HB.out
      have hcB := (hL.cellB j c2).1
      have hcX := (hL.cellI (j * 2) (by omega)).1
      have hcY := (hL.cellI1 (j * 2) (by omega)).1
      have wx := HW.out.get (j * 2)
      have wy := HW.out.get (j * 2 + 1)
      have hzx := itoaS_size _ wx
      have hzy := itoaS_size _ wy
      have hn1 : ((j : Int) + 1 - 1).toNat = j := by omega
      have hj8 : j ≤ 8 := by omega
      have hj9 : (j : Int) < 9 := by omega
      have hj0 : 0 ≤ (j : Int) := by omega
      clear c1 c2
      have e1 : Aside0 (∀ h : j = 0, sB b p j ++ itemB b p ((j : Int) + 1) = sB b p (j + 1)) := ⟨fun h => by subst h; exact sB_zero b p⟩
      have e2 : Aside0 (∀ h : j ≠ 0, sB b p j ++ comma ++ itemB b p ((j : Int) + 1) = sB b p (j + 1)) := ⟨fun h => (sB_succ b p j h).symm⟩
      cases hv : b.getD j false with
      | false =>
        rw [hv] at hcB
        have HIt : Aside0 (itemB b p ((j : Int) + 1) = quest) := ⟨item_no (by omega) hv⟩
        clear hcX hcY wx wy hzx hzy hv
        by_cases c0 : j = 0
        · have HI : Aside0 (sB b p j ++ quest = sB b p (j + 1)) := ⟨by rw [← HIt.out]; exact e1.out c0⟩
          have d3 : decide ((j : Int) + 1 > 1) = false := decide_eq_false (by omega)
          have d3' : decide ((1 : Int) < (j : Int) + 1) = false := decide_eq_false (by omega)
          have d4 : decide (0 < j) = false := decide_eq_false (by omega)
          clear c0
          go_wp2_with fail
          go_roundw
          case measure => simp [intOf]; omega
          case rel => exact ⟨j + 1, by rw [← HI.out]; rfl, by go_num, by omega, ⟨HJ2.out⟩, HB⟩
        · have HI : Aside0 (sB b p j ++ comma ++ quest = sB b p (j + 1)) := ⟨by rw [← HIt.out]; exact e2.out c0⟩
          have d3 : decide ((j : Int) + 1 > 1) = true := decide_eq_true (by omega)
          have d3' : decide ((1 : Int) < (j : Int) + 1) = true := decide_eq_true (by omega)
          have d4 : decide (0 < j) = true := decide_eq_true (by omega)
          clear c0
          go_wp2_with fail
          go_roundw
          case measure => simp [intOf]; omega
          case rel => exact ⟨j + 1, by rw [← HI.out]; rfl, by go_num, by omega, ⟨HJ2.out⟩, HB⟩
      | true =>
        rw [hv] at hcB
        have HIt : Aside0 (itemB b p ((j : Int) + 1) = itoaS (p.getD (j * 2) 0) ++ dash ++ itoaS (p.getD (j * 2 + 1) 0)) := ⟨item_yes (by omega) hv⟩
        generalize p.getD (j * 2) 0 = X at hcX wx hzx HIt
        generalize p.getD (j * 2 + 1) 0 = Y at hcY wy hzy HIt
        clear hv
        by_cases c0 : j = 0
        · have HI : Aside0 (sB b p j ++ (itoaS X ++ dash ++ itoaS Y) = sB b p (j + 1)) := ⟨by rw [← HIt.out]; exact e1.out c0⟩
          have d3 : decide ((j : Int) + 1 > 1) = false := decide_eq_false (by omega)
          have d3' : decide ((1 : Int) < (j : Int) + 1) = false := decide_eq_false (by omega)
          have d4 : decide (0 < j) = false := decide_eq_false (by omega)
          clear c0
          go_wp2_with fail
          have hw1 : IntKind.i64.wrap ((j : Int) + 1 - 1) = (j : Int) := by rw [IntWalk.i64_in _ (by omega)]; omega
          have hw2 : ((j : Int)).toNat = j := Int.toNat_natCast j
          have hw3 : IntKind.i64.wrap (j : Int) = (j : Int) := IntWalk.i64_in _ (by omega)
          have z1 : (9223372036854775807 < (itoaS X).size + 1) = False := eq_false (by omega)
          have z2 : (9223372036854775807 < (itoaS X).size + 1 + (itoaS Y).size) = False := eq_false (by omega)
          have z3 : (9223372036854775807 < (sB b p j).size + ((itoaS X).size + 1 + (itoaS Y).size)) = False := eq_false (by omega)
          refine start_ (n := 19) (S := fun w' => w'.cell? ⟨w.heap.size, 9 + j * 2, none⟩ = some (.int .i64 X) ∧ w'.cell? ⟨w.heap.size, 9 + j * 2 + 1, none⟩ = some (.int .i64 Y) ∧ Below wr.heap.size wr w') (ds := []) #[false, false, false, false, false, false, false, false, false, false, false, false, false, false, false, false, false, false, false] (by kernel_rfl) rfl rfl ⟨hcX, hcY, (below_drew1 (Below.refl _ _))⟩ (fun hHeld => ?_)
          refine pure_ (i := 0) (N := some 25) (v := ?_) (a' := ?_) #[true, false, false, false, false, false, false, false, false, false, false, false, false, false, false, false, false, false, false] rfl rfl (by kernel_rfl) (fun _ _ _ h => h) (Or.inl ⟨by rfl, ?_⟩) ?_ ?_
          rotate_left
          · intro w'
            go_simp
            with_reducible rfl
          rotate_left
          · simp only [Act.put, List.setIfInBounds_toArray, List.set_cons_zero, List.set_cons_succ, i64_w, i32_w]
            rfl
          refine pure_ (i := 1) (N := some 26) (v := ?_) (a' := ?_) #[true, true, false, false, false, false, false, false, false, false, false, false, false, false, false, false, false, false, false] rfl rfl (by kernel_rfl) (fun _ _ _ h => h) (Or.inl ⟨by rfl, ?_⟩) ?_ ?_
          rotate_left
          · intro w'
            go_simp
            with_reducible rfl
          rotate_left
          · simp only [Act.put, List.setIfInBounds_toArray, List.set_cons_zero, List.set_cons_succ, i64_w, i32_w]
            rfl
          refine pure_ (i := 2) (N := some 27) (v := ?_) (a' := ?_) #[true, true, true, false, false, false, false, false, false, false, false, false, false, false, false, false, false, false, false] rfl rfl (by kernel_rfl) (fun _ _ _ h => h) (Or.inl ⟨by rfl, ?_⟩) ?_ ?_
          rotate_left
          · intro w'
            go_simp
            with_reducible rfl
          rotate_left
          · simp only [Act.put, List.setIfInBounds_toArray, List.set_cons_zero, List.set_cons_succ, i64_w, i32_w]
            rfl
          refine pure_ (i := 3) (N := some 28) (v := ?_) (a' := ?_) #[true, true, true, true, false, false, false, false, false, false, false, false, false, false, false, false, false, false, false] rfl rfl (by kernel_rfl) (fun _ _ _ h => h) (Or.inl ⟨by rfl, ?_⟩) ?_ ?_
          rotate_left
          · intro w'
            go_simp
            with_reducible rfl
          rotate_left
          · simp only [Act.put, List.setIfInBounds_toArray, List.set_cons_zero, List.set_cons_succ, i64_w, i32_w]
            rfl
          refine pure_ (i := 4) (N := some 29) (v := ?_) (a' := ?_) #[true, true, true, true, true, false, false, false, false, false, false, false, false, false, false, false, false, false, false] rfl rfl (by kernel_rfl) (fun _ _ _ h => h) (Or.inl ⟨by rfl, ?_⟩) ?_ ?_
          rotate_left
          · intro w'
            go_simp
            with_reducible rfl
          rotate_left
          · simp only [Act.put, List.setIfInBounds_toArray, List.set_cons_zero, List.set_cons_succ, i64_w, i32_w]
            rfl
          refine pure_ (i := 5) (N := some 30) (v := ?_) (a' := ?_) #[true, true, true, true, true, true, false, false, false, false, false, false, false, false, false, false, false, false, false] rfl rfl (by kernel_rfl) (fun _ _ _ h => h) (Or.inl ⟨by rfl, ?_⟩) ?_ ?_
          rotate_left
          · intro w'
            go_simp
            with_reducible rfl
          rotate_left
          · simp only [Act.put, List.setIfInBounds_toArray, List.set_cons_zero, List.set_cons_succ, i64_w, i32_w]
            rfl
          refine pure_ (i := 9) (N := some 34) (v := ?_) (a' := ?_) #[true, true, true, true, true, true, false, false, false, true, false, false, false, false, false, false, false, false, false] rfl rfl (by kernel_rfl) (fun _ _ _ h => h) (Or.inl ⟨by rfl, ?_⟩) ?_ ?_
          rotate_left
          · intro w'
            go_simp
            with_reducible rfl
          rotate_left
          · simp only [Act.put, List.setIfInBounds_toArray, List.set_cons_zero, List.set_cons_succ, i64_w, i32_w]
            rfl
          refine pure_ (i := 10) (N := some 35) (v := ?_) (a' := ?_) #[true, true, true, true, true, true, false, false, false, true, true, false, false, false, false, false, false, false, false] rfl rfl (by kernel_rfl) (fun _ _ _ h => h) (Or.inl ⟨by rfl, ?_⟩) ?_ ?_
          rotate_left
          · intro w'
            go_simp
            with_reducible rfl
          rotate_left
          · simp only [Act.put, List.setIfInBounds_toArray, List.set_cons_zero, List.set_cons_succ, i64_w, i32_w]
            rfl
          refine pure_ (i := 11) (N := some 36) (v := ?_) (a' := ?_) #[true, true, true, true, true, true, false, false, false, true, true, true, false, false, false, false, false, false, false] rfl rfl (by kernel_rfl) (fun _ _ _ h => h) (Or.inl ⟨by rfl, ?_⟩) ?_ ?_
          rotate_left
          · intro w'
            go_simp
            with_reducible rfl
          rotate_left
          · simp only [Act.put, List.setIfInBounds_toArray, List.set_cons_zero, List.set_cons_succ, i64_w, i32_w]
            rfl
          refine pure_ (i := 12) (N := some 37) (v := ?_) (a' := ?_) #[true, true, true, true, true, true, false, false, false, true, true, true, true, false, false, false, false, false, false] rfl rfl (by kernel_rfl) (fun _ _ _ h => h) (Or.inl ⟨by rfl, ?_⟩) ?_ ?_
          rotate_left
          · intro w'
            go_simp
            with_reducible rfl
          rotate_left
          · simp only [Act.put, List.setIfInBounds_toArray, List.set_cons_zero, List.set_cons_succ, i64_w, i32_w]
            rfl
          refine pure_ (i := 13) (N := some 38) (v := ?_) (a' := ?_) #[true, true, true, true, true, true, false, false, false, true, true, true, true, true, false, false, false, false, false] rfl rfl (by kernel_rfl) (fun _ _ _ h => h) (Or.inl ⟨by rfl, ?_⟩) ?_ ?_
          rotate_left
          · intro w'
            go_simp
            with_reducible rfl
          rotate_left
          · simp only [Act.put, List.setIfInBounds_toArray, List.set_cons_zero, List.set_cons_succ, i64_w, i32_w]
            rfl
          refine take_ (i := 6) (N := some 31) (v := ?_) (a' := ?_) #[true, true, true, true, true, true, true, false, false, true, true, true, true, true, false, false, false, false, false] rfl rfl (by kernel_rfl) (fun _ _ _ h => h) (Or.inl ⟨by rfl, ?_⟩) hHeld ?_ ?_
          rotate_left
          · rintro w' ⟨s0, s1, s2⟩
            go_simp
            with_reducible rfl
          rotate_left
          · simp only [Act.put, List.setIfInBounds_toArray, List.set_cons_zero, List.set_cons_succ, i64_w, i32_w]
            rfl
          refine take_ (i := 14) (N := some 39) (v := ?_) (a' := ?_) #[true, true, true, true, true, true, true, false, false, true, true, true, true, true, true, false, false, false, false] rfl rfl (by kernel_rfl) (fun _ _ _ h => h) (Or.inl ⟨by rfl, ?_⟩) hHeld ?_ ?_
          rotate_left
          · rintro w' ⟨s0, s1, s2⟩
            go_simp
            with_reducible rfl
          rotate_left
          · simp only [Act.put, List.setIfInBounds_toArray, List.set_cons_zero, List.set_cons_succ, i64_w, i32_w]
            rfl
          refine one_ (i := 7) (N := some 32) #[true, true, true, true, true, true, true, true, false, true, true, true, true, true, true, false, false, false, false] rfl rfl (by kernel_rfl) (by decide) (fun K hK => ?_)
          refine goes_ Tryd.func25 (by kernel_rfl) rfl #[.int .i64 X] (by rfl) rfl rfl (by simp only [List.map_toArray, List.map_cons, List.map_nil]; rfl) ?_
          with_reducible refine (number_at X wx _).mono ?_
          rintro e w3 ⟨rfl, hb⟩
          refine ⟨_, rfl, ?_⟩
          refine hK.out _ _ ⟨(cell_on hHeld.1 hb), (cell_on hHeld.2.1 hb), (hHeld.2.2.trans (hb.mono hHeld.2.2.size))⟩ (fun hHeld => ?_)
          clear hK K
          refine norm_ (a' := ?_) ?_ ?_
          rotate_left
          · show Act.put _ (some 32) _ = _
            simp only [Act.put, List.setIfInBounds_toArray, List.set_cons_zero, List.set_cons_succ, i64_w, i32_w]
            rfl
          refine pure_ (i := 8) (N := some 33) (v := ?_) (a' := ?_) #[true, true, true, true, true, true, true, true, true, true, true, true, true, true, true, false, false, false, false] rfl rfl (by kernel_rfl) (fun _ _ _ h => h) (Or.inl ⟨by rfl, ?_⟩) ?_ ?_
          rotate_left
          · intro w'
            go_simp
            with_reducible rfl
          rotate_left
          · simp only [Act.put, List.setIfInBounds_toArray, List.set_cons_zero, List.set_cons_succ, i64_w, i32_w]
            rfl
          refine one_ (i := 15) (N := some 40) #[true, true, true, true, true, true, true, true, true, true, true, true, true, true, true, true, false, false, false] rfl rfl (by kernel_rfl) (by decide) (fun K hK => ?_)
          refine goes_ Tryd.func25 (by kernel_rfl) rfl #[.int .i64 Y] (by rfl) rfl rfl (by simp only [List.map_toArray, List.map_cons, List.map_nil]; rfl) ?_
          with_reducible refine (number_at Y wy _).mono ?_
          rintro e w3 ⟨rfl, hb⟩
          refine ⟨_, rfl, ?_⟩
          refine hK.out _ _ ⟨(cell_on hHeld.1 hb), (cell_on hHeld.2.1 hb), (hHeld.2.2.trans (hb.mono hHeld.2.2.size))⟩ (fun hHeld => ?_)
          clear hK K
          refine norm_ (a' := ?_) ?_ ?_
          rotate_left
          · show Act.put _ (some 40) _ = _
            simp only [Act.put, List.setIfInBounds_toArray, List.set_cons_zero, List.set_cons_succ, i64_w, i32_w]
            rfl
          refine pure_ (i := 16) (N := some 41) (v := ?_) (a' := ?_) #[true, true, true, true, true, true, true, true, true, true, true, true, true, true, true, true, true, false, false] rfl rfl (by kernel_rfl) (fun _ _ _ h => h) (Or.inl ⟨by rfl, ?_⟩) ?_ ?_
          rotate_left
          · intro w'
            go_simp
            with_reducible rfl
          rotate_left
          · simp only [Act.put, List.setIfInBounds_toArray, List.set_cons_zero, List.set_cons_succ, i64_w, i32_w]
            rfl
          refine pure_ (i := 17) (N := some 42) (v := ?_) (a' := ?_) #[true, true, true, true, true, true, true, true, true, true, true, true, true, true, true, true, true, true, false] rfl rfl (by kernel_rfl) (fun _ _ _ h => h) (Or.inl ⟨by rfl, ?_⟩) ?_ ?_
          rotate_left
          · intro w'
            go_simp
            with_reducible rfl
          rotate_left
          · simp only [Act.put, List.setIfInBounds_toArray, List.set_cons_zero, List.set_cons_succ, i64_w, i32_w]
            rfl
          refine pure_ (i := 18) (N := some 5) (v := ?_) (a' := ?_) #[true, true, true, true, true, true, true, true, true, true, true, true, true, true, true, true, true, true, true] rfl rfl (by kernel_rfl) (fun _ _ _ h => h) (Or.inl ⟨by rfl, ?_⟩) ?_ ?_
          rotate_left
          · intro w'
            go_simp
            with_reducible rfl
          rotate_left
          · simp only [Act.put, List.setIfInBounds_toArray, List.set_cons_zero, List.set_cons_succ, i64_w, i32_w]
            rfl
          refine done_ (by kernel_rfl) ?_
          have HB2 := Aside0.mk hHeld.2.2
          clear hw1 hw2 hw3 z1 z2 z3
          go_wp2_with fail
          go_roundw
          case measure => simp [intOf]; omega
          case rel => exact ⟨j + 1, by rw [← HI.out]; rfl, by go_num, by omega, ⟨HJ2.out⟩, ⟨HB.out.trans (HB2.out.mono HB.out.size)⟩⟩
        · have HI : Aside0 (sB b p j ++ comma ++ (itoaS X ++ dash ++ itoaS Y) = sB b p (j + 1)) := ⟨by rw [← HIt.out]; exact e2.out c0⟩
          have d3 : decide ((j : Int) + 1 > 1) = true := decide_eq_true (by omega)
          have d3' : decide ((1 : Int) < (j : Int) + 1) = true := decide_eq_true (by omega)
          have d4 : decide (0 < j) = true := decide_eq_true (by omega)
          clear c0
          go_wp2_with fail
          have hw1 : IntKind.i64.wrap ((j : Int) + 1 - 1) = (j : Int) := by rw [IntWalk.i64_in _ (by omega)]; omega
          have hw2 : ((j : Int)).toNat = j := Int.toNat_natCast j
          have hw3 : IntKind.i64.wrap (j : Int) = (j : Int) := IntWalk.i64_in _ (by omega)
          have z1 : (9223372036854775807 < (itoaS X).size + 1) = False := eq_false (by omega)
          have z2 : (9223372036854775807 < (itoaS X).size + 1 + (itoaS Y).size) = False := eq_false (by omega)
          have z3 : (9223372036854775807 < (sB b p j).size + 1 + ((itoaS X).size + 1 + (itoaS Y).size)) = False := eq_false (by omega)
          refine start_ (n := 19) (S := fun w' => w'.cell? ⟨w.heap.size, 9 + j * 2, none⟩ = some (.int .i64 X) ∧ w'.cell? ⟨w.heap.size, 9 + j * 2 + 1, none⟩ = some (.int .i64 Y) ∧ Below wr.heap.size wr w') (ds := []) #[false, false, false, false, false, false, false, false, false, false, false, false, false, false, false, false, false, false, false] (by kernel_rfl) rfl rfl ⟨hcX, hcY, (below_drew1 (Below.refl _ _))⟩ (fun hHeld => ?_)
          refine pure_ (i := 0) (N := some 25) (v := ?_) (a' := ?_) #[true, false, false, false, false, false, false, false, false, false, false, false, false, false, false, false, false, false, false] rfl rfl (by kernel_rfl) (fun _ _ _ h => h) (Or.inl ⟨by rfl, ?_⟩) ?_ ?_
          rotate_left
          · intro w'
            go_simp
            with_reducible rfl
          rotate_left
          · simp only [Act.put, List.setIfInBounds_toArray, List.set_cons_zero, List.set_cons_succ, i64_w, i32_w]
            rfl
          refine pure_ (i := 1) (N := some 26) (v := ?_) (a' := ?_) #[true, true, false, false, false, false, false, false, false, false, false, false, false, false, false, false, false, false, false] rfl rfl (by kernel_rfl) (fun _ _ _ h => h) (Or.inl ⟨by rfl, ?_⟩) ?_ ?_
          rotate_left
          · intro w'
            go_simp
            with_reducible rfl
          rotate_left
          · simp only [Act.put, List.setIfInBounds_toArray, List.set_cons_zero, List.set_cons_succ, i64_w, i32_w]
            rfl
          refine pure_ (i := 2) (N := some 27) (v := ?_) (a' := ?_) #[true, true, true, false, false, false, false, false, false, false, false, false, false, false, false, false, false, false, false] rfl rfl (by kernel_rfl) (fun _ _ _ h => h) (Or.inl ⟨by rfl, ?_⟩) ?_ ?_
          rotate_left
          · intro w'
            go_simp
            with_reducible rfl
          rotate_left
          · simp only [Act.put, List.setIfInBounds_toArray, List.set_cons_zero, List.set_cons_succ, i64_w, i32_w]
            rfl
          refine pure_ (i := 3) (N := some 28) (v := ?_) (a' := ?_) #[true, true, true, true, false, false, false, false, false, false, false, false, false, false, false, false, false, false, false] rfl rfl (by kernel_rfl) (fun _ _ _ h => h) (Or.inl ⟨by rfl, ?_⟩) ?_ ?_
          rotate_left
          · intro w'
            go_simp
            with_reducible rfl
          rotate_left
          · simp only [Act.put, List.setIfInBounds_toArray, List.set_cons_zero, List.set_cons_succ, i64_w, i32_w]
            rfl
          refine pure_ (i := 4) (N := some 29) (v := ?_) (a' := ?_) #[true, true, true, true, true, false, false, false, false, false, false, false, false, false, false, false, false, false, false] rfl rfl (by kernel_rfl) (fun _ _ _ h => h) (Or.inl ⟨by rfl, ?_⟩) ?_ ?_
          rotate_left
          · intro w'
            go_simp
            with_reducible rfl
          rotate_left
          · simp only [Act.put, List.setIfInBounds_toArray, List.set_cons_zero, List.set_cons_succ, i64_w, i32_w]
            rfl
          refine pure_ (i := 5) (N := some 30) (v := ?_) (a' := ?_) #[true, true, true, true, true, true, false, false, false, false, false, false, false, false, false, false, false, false, false] rfl rfl (by kernel_rfl) (fun _ _ _ h => h) (Or.inl ⟨by rfl, ?_⟩) ?_ ?_
          rotate_left
          · intro w'
            go_simp
            with_reducible rfl
          rotate_left
          · simp only [Act.put, List.setIfInBounds_toArray, List.set_cons_zero, List.set_cons_succ, i64_w, i32_w]
            rfl
          refine pure_ (i := 9) (N := some 34) (v := ?_) (a' := ?_) #[true, true, true, true, true, true, false, false, false, true, false, false, false, false, false, false, false, false, false] rfl rfl (by kernel_rfl) (fun _ _ _ h => h) (Or.inl ⟨by rfl, ?_⟩) ?_ ?_
          rotate_left
          · intro w'
            go_simp
            with_reducible rfl
          rotate_left
          · simp only [Act.put, List.setIfInBounds_toArray, List.set_cons_zero, List.set_cons_succ, i64_w, i32_w]
            rfl
          refine pure_ (i := 10) (N := some 35) (v := ?_) (a' := ?_) #[true, true, true, true, true, true, false, false, false, true, true, false, false, false, false, false, false, false, false] rfl rfl (by kernel_rfl) (fun _ _ _ h => h) (Or.inl ⟨by rfl, ?_⟩) ?_ ?_
          rotate_left
          · intro w'
            go_simp
            with_reducible rfl
          rotate_left
          · simp only [Act.put, List.setIfInBounds_toArray, List.set_cons_zero, List.set_cons_succ, i64_w, i32_w]
            rfl
          refine pure_ (i := 11) (N := some 36) (v := ?_) (a' := ?_) #[true, true, true, true, true, true, false, false, false, true, true, true, false, false, false, false, false, false, false] rfl rfl (by kernel_rfl) (fun _ _ _ h => h) (Or.inl ⟨by rfl, ?_⟩) ?_ ?_
          rotate_left
          · intro w'
            go_simp
            with_reducible rfl
          rotate_left
          · simp only [Act.put, List.setIfInBounds_toArray, List.set_cons_zero, List.set_cons_succ, i64_w, i32_w]
            rfl
          refine pure_ (i := 12) (N := some 37) (v := ?_) (a' := ?_) #[true, true, true, true, true, true, false, false, false, true, true, true, true, false, false, false, false, false, false] rfl rfl (by kernel_rfl) (fun _ _ _ h => h) (Or.inl ⟨by rfl, ?_⟩) ?_ ?_
          rotate_left
          · intro w'
            go_simp
            with_reducible rfl
          rotate_left
          · simp only [Act.put, List.setIfInBounds_toArray, List.set_cons_zero, List.set_cons_succ, i64_w, i32_w]
            rfl
          refine pure_ (i := 13) (N := some 38) (v := ?_) (a' := ?_) #[true, true, true, true, true, true, false, false, false, true, true, true, true, true, false, false, false, false, false] rfl rfl (by kernel_rfl) (fun _ _ _ h => h) (Or.inl ⟨by rfl, ?_⟩) ?_ ?_
          rotate_left
          · intro w'
            go_simp
            with_reducible rfl
          rotate_left
          · simp only [Act.put, List.setIfInBounds_toArray, List.set_cons_zero, List.set_cons_succ, i64_w, i32_w]
            rfl
          refine take_ (i := 6) (N := some 31) (v := ?_) (a' := ?_) #[true, true, true, true, true, true, true, false, false, true, true, true, true, true, false, false, false, false, false] rfl rfl (by kernel_rfl) (fun _ _ _ h => h) (Or.inl ⟨by rfl, ?_⟩) hHeld ?_ ?_
          rotate_left
          · rintro w' ⟨s0, s1, s2⟩
            go_simp
            with_reducible rfl
          rotate_left
          · simp only [Act.put, List.setIfInBounds_toArray, List.set_cons_zero, List.set_cons_succ, i64_w, i32_w]
            rfl
          refine take_ (i := 14) (N := some 39) (v := ?_) (a' := ?_) #[true, true, true, true, true, true, true, false, false, true, true, true, true, true, true, false, false, false, false] rfl rfl (by kernel_rfl) (fun _ _ _ h => h) (Or.inl ⟨by rfl, ?_⟩) hHeld ?_ ?_
          rotate_left
          · rintro w' ⟨s0, s1, s2⟩
            go_simp
            with_reducible rfl
          rotate_left
          · simp only [Act.put, List.setIfInBounds_toArray, List.set_cons_zero, List.set_cons_succ, i64_w, i32_w]
            rfl
          refine one_ (i := 7) (N := some 32) #[true, true, true, true, true, true, true, true, false, true, true, true, true, true, true, false, false, false, false] rfl rfl (by kernel_rfl) (by decide) (fun K hK => ?_)
          refine goes_ Tryd.func25 (by kernel_rfl) rfl #[.int .i64 X] (by rfl) rfl rfl (by simp only [List.map_toArray, List.map_cons, List.map_nil]; rfl) ?_
          with_reducible refine (number_at X wx _).mono ?_
          rintro e w3 ⟨rfl, hb⟩
          refine ⟨_, rfl, ?_⟩
          refine hK.out _ _ ⟨(cell_on hHeld.1 hb), (cell_on hHeld.2.1 hb), (hHeld.2.2.trans (hb.mono hHeld.2.2.size))⟩ (fun hHeld => ?_)
          clear hK K
          refine norm_ (a' := ?_) ?_ ?_
          rotate_left
          · show Act.put _ (some 32) _ = _
            simp only [Act.put, List.setIfInBounds_toArray, List.set_cons_zero, List.set_cons_succ, i64_w, i32_w]
            rfl
          refine pure_ (i := 8) (N := some 33) (v := ?_) (a' := ?_) #[true, true, true, true, true, true, true, true, true, true, true, true, true, true, true, false, false, false, false] rfl rfl (by kernel_rfl) (fun _ _ _ h => h) (Or.inl ⟨by rfl, ?_⟩) ?_ ?_
          rotate_left
          · intro w'
            go_simp
            with_reducible rfl
          rotate_left
          · simp only [Act.put, List.setIfInBounds_toArray, List.set_cons_zero, List.set_cons_succ, i64_w, i32_w]
            rfl
          refine one_ (i := 15) (N := some 40) #[true, true, true, true, true, true, true, true, true, true, true, true, true, true, true, true, false, false, false] rfl rfl (by kernel_rfl) (by decide) (fun K hK => ?_)
          refine goes_ Tryd.func25 (by kernel_rfl) rfl #[.int .i64 Y] (by rfl) rfl rfl (by simp only [List.map_toArray, List.map_cons, List.map_nil]; rfl) ?_
          with_reducible refine (number_at Y wy _).mono ?_
          rintro e w3 ⟨rfl, hb⟩
          refine ⟨_, rfl, ?_⟩
          refine hK.out _ _ ⟨(cell_on hHeld.1 hb), (cell_on hHeld.2.1 hb), (hHeld.2.2.trans (hb.mono hHeld.2.2.size))⟩ (fun hHeld => ?_)
          clear hK K
          refine norm_ (a' := ?_) ?_ ?_
          rotate_left
          · show Act.put _ (some 40) _ = _
            simp only [Act.put, List.setIfInBounds_toArray, List.set_cons_zero, List.set_cons_succ, i64_w, i32_w]
            rfl
          refine pure_ (i := 16) (N := some 41) (v := ?_) (a' := ?_) #[true, true, true, true, true, true, true, true, true, true, true, true, true, true, true, true, true, false, false] rfl rfl (by kernel_rfl) (fun _ _ _ h => h) (Or.inl ⟨by rfl, ?_⟩) ?_ ?_
          rotate_left
          · intro w'
            go_simp
            with_reducible rfl
          rotate_left
          · simp only [Act.put, List.setIfInBounds_toArray, List.set_cons_zero, List.set_cons_succ, i64_w, i32_w]
            rfl
          refine pure_ (i := 17) (N := some 42) (v := ?_) (a' := ?_) #[true, true, true, true, true, true, true, true, true, true, true, true, true, true, true, true, true, true, false] rfl rfl (by kernel_rfl) (fun _ _ _ h => h) (Or.inl ⟨by rfl, ?_⟩) ?_ ?_
          rotate_left
          · intro w'
            go_simp
            with_reducible rfl
          rotate_left
          · simp only [Act.put, List.setIfInBounds_toArray, List.set_cons_zero, List.set_cons_succ, i64_w, i32_w]
            rfl
          refine pure_ (i := 18) (N := some 5) (v := ?_) (a' := ?_) #[true, true, true, true, true, true, true, true, true, true, true, true, true, true, true, true, true, true, true] rfl rfl (by kernel_rfl) (fun _ _ _ h => h) (Or.inl ⟨by rfl, ?_⟩) ?_ ?_
          rotate_left
          · intro w'
            go_simp
            with_reducible rfl
          rotate_left
          · simp only [Act.put, List.setIfInBounds_toArray, List.set_cons_zero, List.set_cons_succ, i64_w, i32_w]
            rfl
          refine done_ (by kernel_rfl) ?_
          have HB2 := Aside0.mk hHeld.2.2
          clear hw1 hw2 hw3 z1 z2 z3
          go_wp2_with fail
          go_roundw
          case measure => simp [intOf]; omega
          case rel => exact ⟨j + 1, by rw [← HI.out]; rfl, by go_num, by omega, ⟨HJ2.out⟩, ⟨HB.out.trans (HB2.out.mono HB.out.size)⟩⟩
    · have hd : decide ((j : Int) + 1 ≤ n) = false ∨ decide ((j : Int) + 1 ≤ n) = true ∧ decide ((j : Int) + 1 ≤ 9) = false := by
        by_cases c1 : (j : Int) + 1 ≤ n
        · exact .inr ⟨decide_eq_true c1, decide_eq_false (by omega)⟩
        · exact .inl (decide_eq_false c1)
      have HE : Aside0 (showN n = j) := ⟨by have := HJ.out; unfold showN at this ⊢; split <;> split at this <;> omega⟩
      clear c
      rcases hd with d1 | ⟨d1, d2⟩
      · go_wp2_with fail
        go_ret
        rw [sB_show, HE.out]
        exact ⟨rfl, HA.out.trans (HB.out.mono (by rw [HZ.out]; omega))⟩
      · go_wp2_with fail
        go_ret
        rw [sB_show, HE.out]
        exact ⟨rfl, HA.out.trans (HB.out.mono (by rw [HZ.out]; omega))⟩
end Go.Proofs.YtcgcoblecpbgbaaDoor.CP
