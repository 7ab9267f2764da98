/- Again. -/
import Derived.Test.YtcgcoblecpbgbaaDoorCRefText
import Derived.Test.YtcgcoblecpbgbaaDoorCPure
namespace Go.Proofs.YtcgcoblecpbgbaaDoor.CP
open Go.RowKit Go.Proofs.YtcgcoblecpbgbaaDoorW.PrintWords Go.Proofs.YtcgcoblecpbgbaaDoorW.PrintLast Go.Proofs.YtcgcoblecpbgbaaDoorW.PrintMore
attribute [local go_sem] max2_int min2_int max_two min_two max_three min_three max_four min_four
set_option linter.unusedVariables false
set_option linter.unusedSimpArgs false
def againT (t : ByteArray) (s : ByteArray) (a : Int) (fold : Bool) : Int × Bool :=
  if 0 ≤ a ∧ a + t.size ≤ s.size then (if s.extract a.toNat (a.toNat + t.size) = t ∨ (fold = true ∧ sameB t (s.extract a.toNat (a.toNat + t.size)) = true) then ((t.size : Int), true) else (0, false)) else (0, false)
def againB (b : List Bool) (p : List Int) (s : ByteArray) (g a : Int) (fold : Bool) : Int × Bool := if (textB b p s g).2 = true then againT (textB b p s g).1 s a fold else (0, false)
theorem text_size {b : List Bool} {p : List Int} {s : ByteArray} {g : Int} : (textB b p s g).1.size ≤ 10000 ∧ (textB b p s g).1.size ≤ s.size := by
  unfold textB
  split
  · next h =>
    have := riseB_range h.2.1
    simp
    omega
  · exact ⟨Nat.zero_le _, Nat.zero_le _⟩
attribute [-go_sem] loadVar storeVar
attribute [local go_sem] load3 load4 store4 store23
theorem caps_Text.at {b : List Bool} {p : List Int} {s : ByteArray} {g : Int} {t : ByteArray} {i : Bool} (h : textB b p s g = (t, i)) (w : World) (hb : b.length = 9) (hp : p.length = 18) (hs : s.size ≤ 9223372036854775807) :
    Calls Tryd.prog 13 #[.agg (capsC b p).toArray, .string s, .int .i64 g] w fun e w' => e = .returned (.tuple #[.string t, .bool i]) ∧ Below w.heap.size w w' := by
  have := caps_Text.calls b p s g w hb hp hs
  rw [h] at this
  exact this
theorem toList_inj {a b : ByteArray} : a.toList = b.toList ↔ a = b := by
  constructor
  · intro h
    rw [ByteArray.toList_eq, ByteArray.toList_eq] at h
    exact ByteArray.ext (Array.toList_inj.1 h)
  · intro h; rw [h]
set_option maxHeartbeats 2000000 in
set_option maxRecDepth 100000 in
theorem caps_Again.calls (b : List Bool) (p : List Int) (s : ByteArray) (g a : Int) (fold : Bool) (w : World) (hb : b.length = 9) (hp : p.length = 18) (hs : s.size ≤ 140737488355328) :
    Calls Tryd.prog 17 #[.agg (capsC b p).toArray, .string s, .int .i64 g, .int .i64 a, .bool fold] w fun e w' => e = .returned (.tuple #[.int .i64 (againB b p s g a fold).1, .bool (againB b p s g a fold).2]) ∧ Below w.heap.size w w' := by
  have hts := text_size (b := b) (p := p) (s := s) (g := g)
  obtain ⟨⟨t, is⟩, hG⟩ : ∃ x, textB b p s g = x := ⟨_, rfl⟩
  rw [hG] at hts
  simp only at hts
  have HG := Aside0.mk hG
  have h26 := load_caps (at_new w 26 (capsC b p)) hb hp
  have HP := Aside0.mk (And.intro hb hp)
  have HA := Aside0.mk ((Below.refl w.heap.size w).alloc (Nat.le_refl _) (.cells (capsC b p).toArray 26))
  have hsz : w.heap.size ≤ (w.alloc (.cells (capsC b p).toArray 26)).heap.size := by simp
  have HS := Aside0.mk hsz
  have HZ := Aside0.mk hs
  clear hG hb hp hsz
  cases is with
  | false =>
    have HT : Aside0 (againB b p s g a fold = (0, false)) := ⟨by unfold againB; rw [HG.out]; rfl⟩
    go_enter Tryd.func17, Tryd.ntmps17
    go_wp2_with fail
    refine (caps_Text.at HG.out _ HP.out.1 HP.out.2 (by have := HZ.out; omega)).mono ?_
    rintro e w1 ⟨rfl, hb1⟩
    go_wp2
    go_ret2
    rw [HT.out]
    exact ⟨rfl, HA.out.trans (hb1.mono HS.out)⟩
  | true =>
    have HT : Aside0 (againB b p s g a fold = againT t s a fold) := ⟨by unfold againB; rw [HG.out]; rfl⟩
    by_cases c1 : 0 ≤ a
    · obtain ⟨n, rfl⟩ := Int.eq_ofNat_of_zero_le c1
      have d1 : decide ((n : Int) < 0) = false := decide_eq_false (by omega)
      by_cases c2 : n ≤ s.size
      · have d2 : decide ((n : Int) > (s.size : Int)) = false := decide_eq_false (by omega)
        have d2' : decide (s.size < n) = false := decide_eq_false (by omega)
        by_cases c3 : n + t.size ≤ s.size
        · have e1 : (n : Int) ≤ (n : Int) + (t.size : Int) := by omega
          have e2 : (n : Int) + (t.size : Int) ≤ (s.size : Int) := by omega
          have e3 : ((n : Int) + (t.size : Int)).toNat = n + t.size := by omega
          have d3 : decide ((s.size : Int) - (n : Int) < (t.size : Int)) = false := decide_eq_false (by omega)
          by_cases c4 : s.extract n (n + t.size) = t
          · have HR : Aside0 (againT t s n fold = ((t.size : Int), true)) := ⟨by unfold againT; rw [if_pos (by omega), if_pos (.inl (by rw [Int.toNat_natCast]; exact c4))]⟩
            have d4 : ((s.extract n (n + t.size)).toList != t.toList) = false := bne_eq_false_iff_eq.2 (by rw [c4])
            have d5 : ((s.extract n (n + t.size)).toList == t.toList) = true := beq_iff_eq.2 (by rw [c4])
            clear c4
            go_enter Tryd.func17, Tryd.ntmps17
            go_wp2_with fail
            refine (caps_Text.at HG.out _ HP.out.1 HP.out.2 (by have := HZ.out; omega)).mono ?_
            rintro e w1 ⟨rfl, hb1⟩
            go_wp2
            go_ret2
            rw [HT.out, HR.out]
            exact ⟨rfl, HA.out.trans (hb1.mono HS.out)⟩
          · have d4 : ((s.extract n (n + t.size)).toList != t.toList) = true := bne_iff_ne.2 (fun h => c4 (toList_inj.1 h))
            have d5 : ((s.extract n (n + t.size)).toList == t.toList) = false := beq_eq_false_iff_ne.2 (fun h => c4 (toList_inj.1 h))
            cases fold with
            | false =>
              have HR : Aside0 (againT t s n false = (0, false)) := ⟨by unfold againT; rw [if_pos (by omega), if_neg (by rw [Int.toNat_natCast]; simpa using c4)]⟩
              clear c4
              go_enter Tryd.func17, Tryd.ntmps17
              go_wp2_with fail
              refine (caps_Text.at HG.out _ HP.out.1 HP.out.2 (by have := HZ.out; omega)).mono ?_
              rintro e w1 ⟨rfl, hb1⟩
              go_wp2
              go_ret2
              rw [HT.out, HR.out]
              exact ⟨rfl, HA.out.trans (hb1.mono HS.out)⟩
            | true =>
              cases hC : sameB t (s.extract n (n + t.size)) with
              | false =>
                have HR : Aside0 (againT t s n true = (0, false)) := ⟨by unfold againT; rw [if_pos (by omega), if_neg (by rw [Int.toNat_natCast, hC]; simpa using c4)]⟩
                have HC := Aside0.mk hC
                clear c4 hC
                go_enter Tryd.func17, Tryd.ntmps17
                go_wp2_with fail
                refine (caps_Text.at HG.out _ HP.out.1 HP.out.2 (by have := HZ.out; omega)).mono ?_
                rintro e w1 ⟨rfl, hb1⟩
                go_wp2_with fail
                refine (caps_same.calls (t.size + 1) t (s.extract n (n + t.size)) false _ (by rw [same_eq t _ (by rw [ByteArray.size_extract]; omega) (by omega), HC.out])).mono ?_
                rintro e w2 ⟨rfl, hd⟩
                go_wp2
                go_ret2
                rw [HT.out, HR.out]
                exact ⟨rfl, (HA.out.trans (hb1.mono HS.out)).trans (hd.below.mono (Nat.le_trans HS.out hb1.size))⟩
              | true =>
                have HR : Aside0 (againT t s n true = ((t.size : Int), true)) := ⟨by unfold againT; rw [if_pos (by omega), if_pos (by rw [Int.toNat_natCast, hC]; simp)]⟩
                have HC := Aside0.mk hC
                clear c4 hC
                go_enter Tryd.func17, Tryd.ntmps17
                go_wp2_with fail
                refine (caps_Text.at HG.out _ HP.out.1 HP.out.2 (by have := HZ.out; omega)).mono ?_
                rintro e w1 ⟨rfl, hb1⟩
                go_wp2_with fail
                refine (caps_same.calls (t.size + 1) t (s.extract n (n + t.size)) true _ (by rw [same_eq t _ (by rw [ByteArray.size_extract]; omega) (by omega), HC.out])).mono ?_
                rintro e w2 ⟨rfl, hd⟩
                go_wp2
                go_ret2
                rw [HT.out, HR.out]
                exact ⟨rfl, (HA.out.trans (hb1.mono HS.out)).trans (hd.below.mono (Nat.le_trans HS.out hb1.size))⟩
        · have d3 : decide ((s.size : Int) - (n : Int) < (t.size : Int)) = true := decide_eq_true (by omega)
          have HR : Aside0 (againT t s n fold = (0, false)) := ⟨by unfold againT; rw [if_neg (by omega)]⟩
          go_enter Tryd.func17, Tryd.ntmps17
          go_wp2_with fail
          refine (caps_Text.at HG.out _ HP.out.1 HP.out.2 (by have := HZ.out; omega)).mono ?_
          rintro e w1 ⟨rfl, hb1⟩
          go_wp2
          go_ret2
          rw [HT.out, HR.out]
          exact ⟨rfl, HA.out.trans (hb1.mono HS.out)⟩
      · have d2 : decide ((n : Int) > (s.size : Int)) = true := decide_eq_true (by omega)
        have d2' : decide (s.size < n) = true := decide_eq_true (by omega)
        have HR : Aside0 (againT t s n fold = (0, false)) := ⟨by unfold againT; rw [if_neg (by omega)]⟩
        go_enter Tryd.func17, Tryd.ntmps17
        go_wp2_with fail
        refine (caps_Text.at HG.out _ HP.out.1 HP.out.2 (by have := HZ.out; omega)).mono ?_
        rintro e w1 ⟨rfl, hb1⟩
        go_wp2
        go_ret2
        rw [HT.out, HR.out]
        exact ⟨rfl, HA.out.trans (hb1.mono HS.out)⟩
    · have d1 : decide (a < 0) = true := decide_eq_true (by omega)
      have HR : Aside0 (againT t s a fold = (0, false)) := ⟨by unfold againT; rw [if_neg (by omega)]⟩
      go_enter Tryd.func17, Tryd.ntmps17
      go_wp2_with fail
      refine (caps_Text.at HG.out _ HP.out.1 HP.out.2 (by have := HZ.out; omega)).mono ?_
      rintro e w1 ⟨rfl, hb1⟩
      go_wp2
      go_ret2
      rw [HT.out, HR.out]
      exact ⟨rfl, HA.out.trans (hb1.mono HS.out)⟩
end Go.Proofs.YtcgcoblecpbgbaaDoor.CP
