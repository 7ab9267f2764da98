/- Text. -/
import Derived.Test.YtcgcoblecpbgbaaDoorCRefGet
namespace Go.Proofs.YtcgcoblecpbgbaaDoor.CP
open Go.RowKit Go.Proofs.YtcgcoblecpbgbaaDoorW.PrintWords Go.Proofs.YtcgcoblecpbgbaaDoorW.PrintLast Go.Proofs.YtcgcoblecpbgbaaDoorW.PrintMore
attribute [local go_sem] max2_int min2_int max_two min_two max_three min_three max_four min_four
set_option linter.unusedVariables false
set_option linter.unusedSimpArgs false
def textB (b : List Bool) (p : List Int) (s : ByteArray) (g : Int) : ByteArray × Bool :=
  if (getB b p g).2.2 = true ∧ riseB (getB b p g).1 (getB b p g).2.1 = true ∧ (getB b p g).2.1 ≤ (s.size : Int) then (s.extract (getB b p g).1.toNat (getB b p g).2.1.toNat, true) else (⟨#[]⟩, false)
theorem riseB_range {f t : Int} (h : riseB f t = true) : 0 ≤ f ∧ f ≤ t ∧ t ≤ 10000 := by
  unfold riseB at h
  simpa using h
attribute [-go_sem] loadVar storeVar
attribute [local go_sem] load3 load4 store4 store23
theorem caps_Get.at {b : List Bool} {p : List Int} {g f t : Int} {i : Bool} (h : getB b p g = (f, t, i)) (w : World) (hb : b.length = 9) (hp : p.length = 18) :
    Calls Tryd.prog 11 #[.agg (capsC b p).toArray, .int .i64 g] w fun e w' => e = .returned (.tuple #[.int .i64 f, .int .i64 t, .bool i]) ∧ Below w.heap.size w w' := by
  have := caps_Get.calls b p g w hb hp
  rw [h] at this
  exact this
set_option maxHeartbeats 2000000 in
set_option maxRecDepth 100000 in
theorem caps_Text.calls (b : List Bool) (p : List Int) (s : ByteArray) (g : Int) (w : World) (hb : b.length = 9) (hp : p.length = 18) (hs : s.size ≤ 9223372036854775807) :
    Calls Tryd.prog 13 #[.agg (capsC b p).toArray, .string s, .int .i64 g] w fun e w' => e = .returned (.tuple #[.string (textB b p s g).1, .bool (textB b p s g).2]) ∧ Below w.heap.size w w' := by
  obtain ⟨⟨f, t, is⟩, hG⟩ : ∃ x, getB b p g = x := ⟨_, rfl⟩
  have HG := Aside0.mk hG
  have h26 := load_caps (at_new w 26 (capsC b p)) hb hp
  have HP := Aside0.mk (And.intro hb hp)
  have HA := Aside0.mk ((Below.refl w.heap.size w).alloc (Nat.le_refl _) (.cells (capsC b p).toArray 26))
  have hsz : w.heap.size ≤ (w.alloc (.cells (capsC b p).toArray 26)).heap.size := by simp
  have HS := Aside0.mk hsz
  clear hG hb hp hsz
  cases is with
  | false =>
    have ht : textB b p s g = (⟨#[]⟩, false) := by unfold textB; rw [HG.out]; rfl
    have HT := Aside0.mk ht
    clear ht
    go_enter Tryd.func13, Tryd.ntmps13
    go_wp2_with fail
    refine (caps_Get.at HG.out _ HP.out.1 HP.out.2).mono ?_
    rintro e w1 ⟨rfl, hb1⟩
    go_wp2
    go_ret2
    rw [HT.out]
    exact ⟨rfl, HA.out.trans (hb1.mono HS.out)⟩
  | true =>
    cases hr : riseB f t with
    | false =>
      have ht : textB b p s g = (⟨#[]⟩, false) := by unfold textB; rw [HG.out]; simp [hr]
      have HT := Aside0.mk ht
      clear ht
      have HR := Aside0.mk hr
      clear hr
      go_enter Tryd.func13, Tryd.ntmps13
      go_wp2_with fail
      refine (caps_Get.at HG.out _ HP.out.1 HP.out.2).mono ?_
      rintro e w1 ⟨rfl, hb1⟩
      go_wp2_with fail
      refine (caps_rises.calls f t false _ (by rw [rises_eq, HR.out])).mono ?_
      rintro e w2 ⟨rfl, hd⟩
      go_wp2
      go_ret2
      rw [HT.out]
      exact ⟨rfl, (HA.out.trans (hb1.mono HS.out)).trans (hd.below.mono (Nat.le_trans HS.out hb1.size))⟩
    | true =>
      have hr2 := riseB_range hr
      have HR := Aside0.mk hr
      clear hr
      by_cases c : t ≤ (s.size : Int)
      · have d1 : decide (t > (s.size : Int)) = false := decide_eq_false (by omega)
        have d2 : decide ((s.size : Int) < t) = false := decide_eq_false (by omega)
        have ht : textB b p s g = (s.extract f.toNat t.toNat, true) := by unfold textB; rw [HG.out]; simp [HR.out, c]
        have HT := Aside0.mk ht
        clear ht
        obtain ⟨r1, r2, r3⟩ := hr2
        go_enter Tryd.func13, Tryd.ntmps13
        go_wp2_with fail
        refine (caps_Get.at HG.out _ HP.out.1 HP.out.2).mono ?_
        rintro e w1 ⟨rfl, hb1⟩
        go_wp2_with fail
        refine (caps_rises.calls f t true _ (by rw [rises_eq, HR.out])).mono ?_
        rintro e w2 ⟨rfl, hd⟩
        go_wp2
        go_ret2
        rw [HT.out]
        exact ⟨rfl, (HA.out.trans (hb1.mono HS.out)).trans (hd.below.mono (Nat.le_trans HS.out hb1.size))⟩
      · have d1 : decide (t > (s.size : Int)) = true := decide_eq_true (by omega)
        have d2 : decide ((s.size : Int) < t) = true := decide_eq_true (by omega)
        have ht : textB b p s g = (⟨#[]⟩, false) := by unfold textB; rw [HG.out]; simp [HR.out, c]
        have HT := Aside0.mk ht
        clear ht
        go_enter Tryd.func13, Tryd.ntmps13
        go_wp2_with fail
        refine (caps_Get.at HG.out _ HP.out.1 HP.out.2).mono ?_
        rintro e w1 ⟨rfl, hb1⟩
        go_wp2_with fail
        refine (caps_rises.calls f t true _ (by rw [rises_eq, HR.out])).mono ?_
        rintro e w2 ⟨rfl, hd⟩
        go_wp2
        go_ret2
        rw [HT.out]
        exact ⟨rfl, (HA.out.trans (hb1.mono HS.out)).trans (hd.below.mono (Nat.le_trans HS.out hb1.size))⟩
end Go.Proofs.YtcgcoblecpbgbaaDoor.CP
