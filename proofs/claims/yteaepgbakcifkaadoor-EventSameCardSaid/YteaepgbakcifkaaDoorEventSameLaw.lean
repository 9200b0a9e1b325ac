/- EventSame, whatever it is given. -/
import Derived.Test.YteaepgbakcifkaaDoorEvSameW
import Derived.Test.YteaepgbakcifkaaDoorEvTy
set_option linter.unusedVariables false
set_option linter.unusedSimpArgs false
namespace Go.Proofs.YteaepgbakcifkaaDoor
open Go.RowKit
theorem eventSame_law (v0 v1 : Value) (x0 x1 : TyEV.den) (w : World) (w0 : RepV w TyEV v0 x0) (w1 : RepV w TyEV v1 x1) (hL : laidMetH Tryd.prog Rows.eventSameRow.laid w) :
    Calls Tryd.prog 6 #[v0, v1] w fun e w' => e = .returned (.bool true) ∧ Below w.heap.size w w' := by
  obtain ⟨a, rfl⟩ := repV_ev w0
  obtain ⟨b, rfl⟩ := repV_ev w1
  exact evSame a b (evv_of hL)
end Go.Proofs.YteaepgbakcifkaaDoor
