/- An argument of type [3]uint8, opened. -/
import Derived.Test.YtcgcoblecpbgbaaDoorCOpen
namespace Go.Proofs.YtcgcoblecpbgbaaDoor.CO
open Go.ChangeShapes Go.WideShapes Go.ChangeAt Go.RowKit Go.Deep
open Go.Proofs.YtcgcoblecpbgbaaDoor.CP Go.Proofs.YtcgcoblecpbgbaaDoorW.PrintWords
set_option linter.unusedVariables false
variable {H : Type} {enc : TypeId × Value → H} {w : World} {base : Nat} {sp : Nat → Bool} {held : Bool}
theorem open_three {r : Reach} {b0 : Nat} {v : Value} {d : DataW H} {ps : List MemPlace} (hval : Value.okWide Tryd.prog w r b0 49 v) (hd : DataW.Trod enc Tryd.prog w base sp held 49 v d ps) :
    ∃ x0 x1 x2 : Nat, v = .agg #[.int .u8 x0, .int .u8 x1, .int .u8 x2] ∧ x0 < 256 ∧ x1 < 256 ∧ x2 < 256 := by
  obtain ⟨cs, rfl, hsz⟩ := agg_of Tryd.underlying49 hval
  obtain ⟨fuel, hf⟩ := hd
  have hc := ints_at (cs := cs.toList) Tryd.underlying49 Tryd.underlying5 (by kernel_rfl) hf
  rw [show Tryd.prog.cellsOf 49 = 3 by kernel_rfl] at hsz
  obtain ⟨xs, e, hn, hw⟩ := list_of (Value.int .u8) _ 3 cs.toList (by simpa using hsz) hc
  match xs, hn with
  | [y0, y1, y2], _ =>
    obtain ⟨x0, rfl, h0⟩ := u8_nat (hw y0 (by simp))
    obtain ⟨x1, rfl, h1⟩ := u8_nat (hw y1 (by simp))
    obtain ⟨x2, rfl, h2⟩ := u8_nat (hw y2 (by simp))
    refine ⟨x0, x1, x2, ?_, h0, h1, h2⟩
    congr 1
    exact Array.toList_inj.1 (by rw [e]; rfl)
end Go.Proofs.YtcgcoblecpbgbaaDoor.CO
