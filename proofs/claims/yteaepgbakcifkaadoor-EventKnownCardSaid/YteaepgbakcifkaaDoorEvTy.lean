/- An event that came in; the listed table. -/
import Derived.Test.YteaepgbakcifkaaDoorTy
import Derived.Test.YteaepgbakcifkaaDoorEv9
import Derived.Stop.LaidErr
import Derived.MakeChecks
import Derived.KernelRfl
set_option linter.unusedVariables false
set_option linter.unusedSimpArgs false
namespace Go.Proofs.YteaepgbakcifkaaDoor
open Go.RowKit
abbrev TyEV : Ty := .st (.cons (.int .i64) (.cons (.int .i64) (.cons (.int .i64) (.cons (.int .i64) (.cons (.int .i64) (.cons .str (.cons .str (.cons .str .nil))))))))
theorem repV_ev {w : World} {v : Value} {x : TyEV.den} (h : RepV w TyEV v x) : ∃ e : EV, v = evV e := by
  obtain ⟨h1, cs, rfl⟩ := h
  obtain ⟨c1, r1, e1, _, ⟨rfl, -⟩, c2, r2, rfl, _, ⟨rfl, -⟩, c3, r3, rfl, _, ⟨rfl, -⟩, c4, r4, rfl, _, ⟨rfl, -⟩, c5, r5, rfl, _, ⟨rfl, -⟩, c6, r6, rfl, _, ⟨rfl, -⟩, c7, r7, rfl, _, ⟨rfl, -⟩, c8, r8, rfl, _, ⟨rfl, -⟩, h9⟩ := h1
  have h9 : r8 = [] := h9
  subst h9
  refine ⟨⟨x.1, x.2.1, x.2.2.1, x.2.2.2.1, x.2.2.2.2.1, x.2.2.2.2.2.1, x.2.2.2.2.2.2.1, x.2.2.2.2.2.2.2.1⟩, ?_⟩
  simp only [Value.cells] at e1
  have : cs = #[.int .i64 x.1, .int .i64 x.2.1, .int .i64 x.2.2.1, .int .i64 x.2.2.2.1, .int .i64 x.2.2.2.2.1, .string x.2.2.2.2.2.1, .string x.2.2.2.2.2.2.1, .string x.2.2.2.2.2.2.2.1] := by
    apply Array.ext'
    simpa using e1
  rw [this]
theorem evv_of {W : World} (h : laidMetH Tryd.prog Rows.eventSameRow.laid W) : EvV W := by
  have hL : laidMet Tryd.prog Rows.eventSameRow.laid W := by
    rw [Go.MakeChecks.laidMetH_plain _ _ _ (by rfl)] at h
    exact h
  have h3 := hL.tail.tail
  exact Lib.tabIs_of_head (g := 0) (t := 100) (e := 50) (n := 20) (by kernel_rfl) (by kernel_rfl) Tryd.underlying100 Tryd.underlying50 (by kernel_rfl) (by kernel_rfl) h3
end Go.Proofs.YteaepgbakcifkaaDoor
