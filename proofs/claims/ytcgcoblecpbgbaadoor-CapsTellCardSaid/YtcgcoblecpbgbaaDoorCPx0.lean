-- Written by wip/tools/xprint.py of this session, over the kit's print.
import Derived.Test.YtcgcoblecpbgbaaDoorProg
import Derived.Below
import Derived.Deep.Draws
import Derived.Deep.AppendLies
import Derived.Maps.AppendAt
import Derived.OwnWalk
import Derived.Laws.BytesArg
import Derived.Laws.MakeOwn
import Derived.Laws.OwnMore
import Derived.Deep.OwnRows
import Derived.Tactics
import Derived.Lib.ConvBytes
import Derived.Laws.Slices
import Derived.WalkKit
import Derived.KernelRfl
import Derived.RowKit3
import Derived.Deep.LoopGhost
import Derived.Deep.QuietTactic
import Derived.BigQuiet
import Derived.WideLaws
import Derived.Deep.DeepCutAuto
import Derived.Deep.CutBlock
import Derived.Deep.RegionHeld3
import Derived.Laws.Rows
import Derived.Lib.AppendStr
import Derived.ArgAppend
import Derived.Laws.IdiomCopy
import Derived.OrdersHeld
import Derived.Laws.BitsLemmas
import Derived.RowKit
import Derived.Test.YtcgcoblecpbgbaaDoorWWords
import Derived.Test.YtcgcoblecpbgbaaDoorWLast
import Derived.Test.YtcgcoblecpbgbaaDoorWTab
import Derived.Test.YtcgcoblecpbgbaaDoorWFour
import Derived.Test.YtcgcoblecpbgbaaDoorWQPut
import Derived.Test.YtcgcoblecpbgbaaDoorWApart
import Derived.Test.YtcgcoblecpbgbaaDoorWArr
import Derived.Test.YtcgcoblecpbgbaaDoorWZeros
import Derived.Test.YtcgcoblecpbgbaaDoorWFoot
import Derived.Test.YtcgcoblecpbgbaaDoorWKept
import Derived.Test.YtcgcoblecpbgbaaDoorWShare
import Derived.Test.YtcgcoblecpbgbaaDoorWN
import Derived.Test.YtcgcoblecpbgbaaDoorWFootNe
import Derived.Test.YtcgcoblecpbgbaaDoorWAt
import Derived.Test.YtcgcoblecpbgbaaDoorWEqStruct
import Derived.Test.YtcgcoblecpbgbaaDoorWRepsOne
import Derived.Test.YtcgcoblecpbgbaaDoorWInv
import Derived.Test.YtcgcoblecpbgbaaDoorWInvWords
import Derived.Test.YtcgcoblecpbgbaaDoorWGuard
import Derived.Test.YtcgcoblecpbgbaaDoorWNEv
import Derived.Test.YtcgcoblecpbgbaaDoorWMore
namespace Go.Proofs.YtcgcoblecpbgbaaDoor.CP
open Go.RowKit Go.Proofs.YtcgcoblecpbgbaaDoorW.PrintWords Go.Proofs.YtcgcoblecpbgbaaDoorW.PrintLast Go.Proofs.YtcgcoblecpbgbaaDoorW.PrintMore
attribute [local go_sem] max2_int min2_int max_two min_two max_three min_three max_four min_four   -- for this text's walks alone
set_option linter.unusedVariables false
set_option linter.unusedSimpArgs false



def errW : Option Int → Value
  | none => .nilIface
  | some c => .iface 0 (.int .i64 c)
theorem errW_none : errW none = .nilIface := rfl
theorem errW_some (c : Int) : errW (some c) = .iface 0 (.int .i64 c) := rfl

theorem ite_yes_ {p_ : Prop} [Decidable p_] {α_ : Type} {a_ : Option α_} {r_ : α_} (h_ : (if p_ then a_ else none) = some r_) : p_ ∧ a_ = some r_ := by
  by_cases c_ : p_
  · rw [if_pos c_] at h_
    exact ⟨c_, h_⟩
  · rw [if_neg c_] at h_
    cases h_
theorem ite_no_ {p_ : Prop} [Decidable p_] {α_ : Type} {a_ : Option α_} {r_ : α_} (h_ : (if p_ then none else a_) = some r_) : ¬ p_ ∧ a_ = some r_ := by
  by_cases c_ : p_
  · rw [if_pos c_] at h_
    cases h_
  · rw [if_neg c_] at h_
    exact ⟨c_, h_⟩

theorem info5 : (Tryd.prog.info? 5).map (fun i => (i.zero, i.size, i.bytes)) = some (some (.int .u8 0), 1, 1) := by kernel_rfl
-- the values' own types

end Go.Proofs.YtcgcoblecpbgbaaDoor.CP
