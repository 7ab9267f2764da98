/- The fixed calls' answers, as numbers. -/
import Derived.Test.YtcgcoblecpbgbaaDoorCShow
namespace Go.Proofs.YtcgcoblecpbgbaaDoor.CP
open Go.RowKit Go.Proofs.YtcgcoblecpbgbaaDoorW.PrintWords Go.Proofs.YtcgcoblecpbgbaaDoorW.PrintLast Go.Proofs.YtcgcoblecpbgbaaDoorW.PrintMore
set_option linter.unusedVariables false
def B1 : List Bool := [false, true, false, false, false, false, false, false, false]
def P1 : List Int := [0, 0, 0, 5, 0, 0, 0, 0, 0, 0, 0, 0, 0, 0, 0, 0, 0, 0]
def hello : ByteArray := ⟨#[104, 101, 108, 108, 111]⟩
def helloW : ByteArray := ⟨#[104, 101, 108, 108, 111, 32, 119, 111, 114, 108, 100]⟩
def hell : ByteArray := ⟨#[104, 101, 108, 108]⟩
def helloH : ByteArray := ⟨#[104, 101, 108, 108, 111, 72, 69, 76, 76, 79]⟩
def show3 : ByteArray := ⟨#[63, 44, 48, 45, 53, 44, 63]⟩
def show9 : ByteArray := ⟨#[63, 44, 48, 45, 53, 44, 63, 44, 63, 44, 63, 44, 63, 44, 63, 44, 63, 44, 63]⟩
theorem f_with1 : withB zero9 2 0 5 = B1 ∧ withP zero18 2 0 5 = P1 ∧ withE 2 0 5 = 0 := by decide
theorem f_with2 : withB B1 10 0 1 = zero9 ∧ withP P1 10 0 1 = zero18 ∧ withE 10 0 1 = 1 := by decide
theorem f_with3 : withB B1 1 3 2 = zero9 ∧ withP P1 1 3 2 = zero18 ∧ withE 1 3 2 = 1 := by decide
theorem f_with4 : withB B1 1 0 10001 = zero9 ∧ withP P1 1 0 10001 = zero18 ∧ withE 1 0 10001 = 1 := by decide
theorem f_get2 : getB B1 P1 2 = (0, 5, true) := by decide
theorem f_get1 : getB B1 P1 1 = (0, 0, false) := by decide
theorem f_text1 : textB B1 P1 helloW 2 = (hello, true) := by decide +kernel
theorem f_text2 : textB B1 P1 hell 2 = (⟨#[]⟩, false) := by decide +kernel
theorem f_again1 : againB B1 P1 helloH 2 5 true = (5, true) := by decide +kernel
theorem f_again2 : againB B1 P1 helloH 2 5 false = (0, false) := by decide +kernel
theorem f_show3 : showB B1 P1 3 = show3 := by decide +kernel
theorem f_show0 : showB B1 P1 0 = ⟨#[]⟩ := by decide +kernel
theorem f_show99 : showB B1 P1 99 = show9 := by decide +kernel
end Go.Proofs.YtcgcoblecpbgbaaDoor.CP
