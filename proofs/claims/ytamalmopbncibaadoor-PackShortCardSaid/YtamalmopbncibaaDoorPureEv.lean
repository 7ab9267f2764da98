/- The fixed calls at every fuel that suffices; a minimum's bounds. -/
import Derived.Test.YtamalmopbncibaaDoorPureEncode
import Derived.Test.YtamalmopbncibaaDoorPureFixed
namespace Go.Proofs.YtamalmopbncibaaDoor.Pure
open Go.RowKit Go.Proofs.YtamalmopbncibaaDoor.PK Go.Proofs.YtamalmopbncibaaDoorW.PrintWords Go.Proofs.YtamalmopbncibaaDoorW.PrintLast Go.Proofs.YtamalmopbncibaaDoorW.PrintMore
set_option linter.unusedVariables false
theorem fixed_ev : Ev (fun k => clewlaw16_fixed.f k) true := Ev.of clewlaw16_fixed.mono fixed_at
theorem mn_bounds (a : Nat) (c : Nat) : 0 ≤ mn (a : Int) (c : Int) ∧ mn (a : Int) (c : Int) ≤ (a : Int) ∧ mn (a : Int) (c : Int) ≤ (c : Int) := by
  unfold mn
  split <;> omega
end Go.Proofs.YtamalmopbncibaaDoor.Pure
