/- Stamps' texts: the listed variables. -/
import Derived.Test.YtdiajdbjlhfkpaaDoorStStr
import Derived.Lib.LaidTab
import Derived.Stop.LaidErr
import Derived.MakeChecks
import Derived.KernelRfl
set_option linter.unusedVariables false
namespace Go.Proofs.YtdiajdbjlhfkpaaDoor
open Go.RowKit
theorem star : "*" ++ "errors.errorString" = "*errors.errorString" := by decide
theorem row88 (u : TypeId) (h : Tryd.prog.typeName? 3 u = some "*errors.errorString") : u = 88 :=
  typeName_ptr_named (nm := "errors.errorString") (by rw [star]; kernel_rfl) (by kernel_rfl) (by decide) u (by rw [star]; exact h)
theorem stv_of {W : World} (h : laidMetH Tryd.prog Rows.stampKnownRow.laid W) : StV W := by
  have hL : laidMet Tryd.prog Rows.stampKnownRow.laid W := by
    rw [Go.MakeChecks.laidMetH_plain _ _ _ (by rfl)] at h
    exact h
  have h3 := hL.tail.tail
  have ht : Lib.TabIs Tryd.prog W "internal/strconv.uint64pow10" .u64 Lib.pow10Tab := Lib.tabIs_of_head (g := 3) (t := 80) (e := 25) (n := 20) (by kernel_rfl) (by kernel_rfl) Tryd.underlying80 Tryd.underlying25 (by kernel_rfl) (by kernel_rfl) h3
  have h4 := h3.tail
  obtain ⟨a0, s0, hv0, -⟩ := laid_sentinel (g := 2) (ti := 50) (tp := 88) (te := 90) (ts := 9) h4 (by kernel_rfl) (by kernel_rfl) Tryd.underlying50 row88 Tryd.underlying88 Tryd.underlying90 rfl rfl Tryd.underlying9 (by kernel_rfl) (by kernel_rfl)
  obtain ⟨a1, s1, hv1, -⟩ := laid_sentinel (g := 1) (ti := 50) (tp := 88) (te := 90) (ts := 9) h4.tail (by kernel_rfl) (by kernel_rfl) Tryd.underlying50 row88 Tryd.underlying88 Tryd.underlying90 rfl rfl Tryd.underlying9 (by kernel_rfl) (by kernel_rfl)
  exact ⟨ht, ⟨_, _, hv1⟩, ⟨_, _, hv0⟩⟩
end Go.Proofs.YtdiajdbjlhfkpaaDoor
