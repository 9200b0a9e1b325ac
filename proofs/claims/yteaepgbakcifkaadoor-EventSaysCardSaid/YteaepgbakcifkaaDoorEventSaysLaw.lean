/- EventSays, whatever it is given. -/
import Derived.Test.YteaepgbakcifkaaDoorEvSaysW
import Derived.Test.YteaepgbakcifkaaDoorEvTy
set_option linter.unusedVariables false
set_option linter.unusedSimpArgs false
namespace Go.Proofs.YteaepgbakcifkaaDoor
open Go.RowKit
theorem eventSays_law (v0 v1 : Value) (x0 : TyEV.den) (x1 : (Ty.sl (.int .u8)).den) (w : World) (w0 : RepV w TyEV v0 x0) (w1 : RepV w (.sl (.int .u8)) v1 x1) (hL : laidMetH Tryd.prog Rows.eventSaysRow.laid w) :
    Calls Tryd.prog 4 #[v0, v1] w fun e w' => e = .returned (.bool true) ∧ Below w.heap.size w w' := by
  obtain ⟨e, rfl⟩ := repV_ev w0
  obtain ⟨a, n, c, rfl, h1⟩ := repV_sl w1
  obtain ⟨hS, hb⟩ := slT_int h1
  have hv := evv_of hL
  by_cases h : 100 < e.nm.size ∨ 100 < e.ky.size ∨ 1000 < e.dt.size ∨ 1200 < n
  · exact evSays_big e a n c hv h
  · exact evSays e a n c x1 hv hS (isB_of_wf hb) (by omega) (by omega) (by omega) (by omega)
end Go.Proofs.YteaepgbakcifkaaDoor
