/- Arguments of type caps.Caps and [4]int, opened. -/
import Derived.Test.YtcgcoblecpbgbaaDoorCOpen
namespace Go.Proofs.YtcgcoblecpbgbaaDoor.CO
open Go.ChangeShapes Go.WideShapes Go.ChangeAt Go.RowKit Go.Deep
open Go.Proofs.YtcgcoblecpbgbaaDoor.CP Go.Proofs.YtcgcoblecpbgbaaDoorW.PrintWords
set_option linter.unusedVariables false
variable {H : Type} {enc : TypeId × Value → H} {w : World} {base : Nat} {sp : Nat → Bool} {held : Bool}
theorem agg_struct {r : Reach} {b0 : Nat} {t : TypeId} {fs : Array Field} {v : Value} (ht : Tryd.prog.underlying t = some (.struct fs)) (hval : Value.okWide Tryd.prog w r b0 t v) : ∃ cs : Array Value, v = .agg cs ∧ cs.size = Tryd.prog.cellsOf t := by
  simp only [Value.okWide, ht] at hval
  obtain ⟨cs, h1, h2, _⟩ := hval
  exact ⟨cs, h1, h2⟩
theorem take_get {cs : List Value} {m j : Nat} {v : Value} (h : (cs.take m)[j]? = some v) : cs[j]? = some v := by
  rw [List.getElem?_take] at h
  split at h
  · exact h
  · cases h
theorem open_caps {r : Reach} {b0 : Nat} {v : Value} {d : DataW H} {ps : List MemPlace} (hval : Value.okWide Tryd.prog w r b0 26 v) (hd : DataW.Trod enc Tryd.prog w base sp held 26 v d ps) :
    ∃ (b : List Bool) (p : List Int), v = .agg (capsC b p).toArray ∧ b.length = 9 ∧ p.length = 18 ∧ Wf p := by
  obtain ⟨cs, rfl, hsz⟩ := agg_struct Tryd.underlying26 hval
  obtain ⟨fuel, hf⟩ := hd
  rw [show Tryd.prog.cellsOf 26 = 27 by kernel_rfl] at hsz
  obtain ⟨y0, y1, m, _, hl, h0, h1⟩ := trod_struct2 (cs := cs.toList) Tryd.underlying26 hf
  have hz : cs.toList.length = 27 := by simpa using hsz
  have hb := bools_at Tryd.underlying22 Tryd.underlying4 (by kernel_rfl) h0
  have hp := rows_at Tryd.underlying24 Tryd.underlying23 (by omega) (by kernel_rfl) Tryd.underlying3 (by kernel_rfl) h1
  simp only [show Tryd.prog.cellsOf 22 = 9 by kernel_rfl, show Tryd.prog.cellsOf 24 = 18 by kernel_rfl, List.drop_zero] at hb hp
  obtain ⟨b, eb, hbn, _⟩ := list_of Value.bool _ 9 (cs.toList.take 9) (by rw [List.length_take]; omega) hb
  obtain ⟨p, ep, hpn, hw⟩ := list_of (Value.int .i64) _ 18 ((cs.toList.drop 9).take 18) (by rw [List.length_take, List.length_drop]; omega) hp
  refine ⟨b, p, ?_, hbn, hpn, hw⟩
  congr 1
  apply Array.toList_inj.1
  rw [List.toList_toArray]
  unfold capsC
  rw [← eb, ← ep, List.take_of_length_le (l := cs.toList.drop 9) (by rw [List.length_drop]; omega), List.take_append_drop]
theorem i64_wf {x : Int} (h : (Lit.int .i64 x).wf = true) : -9223372036854775808 ≤ x ∧ x ≤ 9223372036854775807 := by
  simp only [Lit.wf, Bool.and_eq_true, decide_eq_true_eq] at h
  exact h
theorem open_four {r : Reach} {b0 : Nat} {v : Value} {d : DataW H} {ps : List MemPlace} (hval : Value.okWide Tryd.prog w r b0 27 v) (hd : DataW.Trod enc Tryd.prog w base sp held 27 v d ps) :
    ∃ x0 x1 x2 x3 : Int, v = .agg #[.int .i64 x0, .int .i64 x1, .int .i64 x2, .int .i64 x3] ∧ (-9223372036854775808 ≤ x0 ∧ x0 ≤ 9223372036854775807) := by
  obtain ⟨cs, rfl, hsz⟩ := agg_of Tryd.underlying27 hval
  obtain ⟨fuel, hf⟩ := hd
  have hc := ints_at (cs := cs.toList) Tryd.underlying27 Tryd.underlying3 (by kernel_rfl) hf
  rw [show Tryd.prog.cellsOf 27 = 4 by kernel_rfl] at hsz
  obtain ⟨xs, e, hn, hw⟩ := list_of (Value.int .i64) _ 4 cs.toList (by simpa using hsz) hc
  match xs, hn with
  | [y0, y1, y2, y3], _ =>
    refine ⟨y0, y1, y2, y3, ?_, i64_wf (hw y0 (by simp))⟩
    congr 1
    exact Array.toList_inj.1 (by rw [e]; rfl)
end Go.Proofs.YtcgcoblecpbgbaaDoor.CO
