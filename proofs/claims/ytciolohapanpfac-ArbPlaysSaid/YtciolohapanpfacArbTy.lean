/- A state that came in. -/
import Derived.Test.YtciolohapanpfacTy
import Derived.Test.YtciolohapanpfacArbMath
set_option linter.unusedVariables false
set_option linter.unusedSimpArgs false
namespace Go.Proofs.Ytciolohapanpfac
open Go.RowKit
abbrev TyAS : Ty := .st (.cons (.int .i64) (.cons (.int .i64) (.cons .bool (.cons (.int .i64) .nil))))
theorem rep_as {w : World} {cs : List Value} {x : TyAS.den} (h : Rep w TyAS cs x) : ∃ y : AS, cs = y.cs ∧ (Lit.int .i64 y.e).wf = true ∧ (Lit.int .i64 y.h).wf = true ∧ (Lit.int .i64 y.f).wf = true := by
  obtain ⟨c1, r1, rfl, _, ⟨rfl, h1⟩, c2, r2, rfl, _, ⟨rfl, h2⟩, c3, r3, rfl, _, h3, c4, r4, rfl, _, ⟨rfl, h4⟩, h5⟩ := h
  refine ⟨⟨x.1, x.2.1, x.2.2.1, x.2.2.2.1⟩, ?_, h1, h2, h4⟩
  rw [show c3 = [Value.bool x.2.2.1] from h3, show r4 = [] from h5]
  rfl
theorem repV_as {w : World} {v : Value} {x : TyAS.den} (h : RepV w TyAS v x) : ∃ y : AS, v = y.v ∧ (Lit.int .i64 y.e).wf = true ∧ (Lit.int .i64 y.h).wf = true ∧ (Lit.int .i64 y.f).wf = true := by
  obtain ⟨h1, cs, rfl⟩ := h
  obtain ⟨y, hy, h2⟩ := rep_as h1
  refine ⟨y, ?_, h2⟩
  simp only [Value.cells, AS.cs] at hy
  have : cs = #[.int .i64 y.e, .int .i64 y.h, .bool y.s, .int .i64 y.f] := by
    apply Array.ext'
    simpa using hy
  rw [this]; rfl
end Go.Proofs.Ytciolohapanpfac
