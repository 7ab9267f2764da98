/- The fixed calls of the statements on packs: each answers as the document fixes. -/
import Derived.Test.YtamalmopbncibaaDoorPKx9
namespace Go.Proofs.YtamalmopbncibaaDoor.Pure
open Go.RowKit Go.Proofs.YtamalmopbncibaaDoor.PK Go.Proofs.YtamalmopbncibaaDoorW.PrintWords Go.Proofs.YtamalmopbncibaaDoorW.PrintLast Go.Proofs.YtamalmopbncibaaDoorW.PrintMore
theorem fixed_at : clewlaw16_fixed.f 40 = some true := by decide +kernel
end Go.Proofs.YtamalmopbncibaaDoor.Pure
