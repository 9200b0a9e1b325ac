/- EventKnown. -/
import Derived.Test.YteaepgbakcifkaaDoorEvKnownW
import Derived.Test.YteaepgbakcifkaaDoorEvTy
set_option linter.unusedVariables false
namespace Go.Proofs.YteaepgbakcifkaaDoor
open Go.RowKit
theorem eventKnown_law (w : World) (hL : laidMetH Tryd.prog Rows.eventKnownRow.laid w) :
    Calls Tryd.prog 3 #[] w fun e w' => e = .returned (.bool true) ∧ Below w.heap.size w w' :=
  evKnown (evv_of hL)
end Go.Proofs.YteaepgbakcifkaaDoor
