/- EventBack, whatever it is given. -/
import Derived.Test.YteaepgbakcifkaaDoorEvBackW
import Derived.Test.YteaepgbakcifkaaDoorEvTy
set_option linter.unusedVariables false
set_option linter.unusedSimpArgs false
namespace Go.Proofs.YteaepgbakcifkaaDoor
open Go.RowKit
theorem eventBack_law (v0 v1 v2 : Value) (x0 : TyEV.den) (x1 : (Ty.sl (.int .u8)).den) (x2 : Int) (w : World) (w0 : RepV w TyEV v0 x0) (w1 : RepV w (.sl (.int .u8)) v1 x1) (w2 : RepV w (.int .i64) v2 x2) (hL : laidMetH Tryd.prog Rows.eventBackRow.laid w) :
    Calls Tryd.prog 5 #[v0, v1, v2] w fun e w' => e = .returned (.bool true) ∧ Below w.heap.size w w' := by
  obtain ⟨e, rfl⟩ := repV_ev w0
  obtain ⟨a, n, c, rfl, h1⟩ := repV_sl w1
  obtain ⟨hS, hb⟩ := slT_int h1
  obtain ⟨rfl, h2⟩ := repV_int w2
  have hc := wf_bd_i64 h2
  have hv := evv_of hL
  by_cases h : 1000 < e.dt.size ∨ 1200 < n
  · exact evBack_big e a n c x2 hv h
  · exact evBack e a n c x1 x2 hc.1 hc.2 hv hS (isB_of_wf hb) (by omega) (by omega)
end Go.Proofs.YteaepgbakcifkaaDoor
