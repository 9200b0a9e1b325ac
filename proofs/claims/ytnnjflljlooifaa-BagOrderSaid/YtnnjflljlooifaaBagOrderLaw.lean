/- BagOrder, whatever it is given. -/
import Derived.Test.YtnnjflljlooifaaBagOrderWalk
import Derived.Test.YtnnjflljlooifaaTy
set_option linter.unusedVariables false
set_option linter.unusedSimpArgs false
namespace Go.Proofs.Ytnnjflljlooifaa
open Go.RowKit
theorem bagOrder_law (v0 : Value) (x0 : (Ty.sl (.int .i64)).den) (w : World) (w0 : RepV w (.sl (.int .i64)) v0 x0) :
    Calls Try.prog 3 #[v0] w fun e w' => e = .returned (.bool true) ∧ Below w.heap.size w w' := by
  obtain ⟨a, n, c, rfl, hs⟩ := repV_sl w0
  exact bagOrder_walk a n c x0 w (slT_int hs).1
end Go.Proofs.Ytnnjflljlooifaa
