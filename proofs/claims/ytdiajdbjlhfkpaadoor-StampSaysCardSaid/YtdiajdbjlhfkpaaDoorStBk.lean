/- StampBack: the law. -/
import Derived.Test.YtdiajdbjlhfkpaaDoorStKn
import Derived.Test.YtdiajdbjlhfkpaaDoorTy
import Derived.Test.YtdiajdbjlhfkpaaDoorStVars
set_option linter.unusedVariables false
set_option linter.unusedSimpArgs false
namespace Go.Proofs.YtdiajdbjlhfkpaaDoor
open Go.RowKit
set_option maxHeartbeats 4000000 in
theorem wide_shl (u : Int) (b : Nat) (h0 : 0 ≤ u) (h1 : u ≤ 18446744073709551615) (b0 : 1 ≤ b) (b1 : b ≤ 64) :
    IntKind.u64.wrap (IntKind.u64.wrap (wideV u b) * 2 ^ (64 - b)) = IntKind.u64.wrap (u * 2 ^ (64 - b)) ∧ -2 ^ (b - 1) ≤ wideV u b ∧ wideV u b < 2 ^ (b - 1) ∧ (1 : Int) ≤ 2 ^ (b - 1) ∧ (2 : Int) ^ (b - 1) ≤ 9223372036854775808 := by
  rcases cases64 b b0 b1 with rfl | rfl | rfl | rfl | rfl | rfl | rfl | rfl | rfl | rfl | rfl | rfl | rfl | rfl | rfl | rfl | rfl | rfl | rfl | rfl | rfl | rfl | rfl | rfl | rfl | rfl | rfl | rfl | rfl | rfl | rfl | rfl | rfl | rfl | rfl | rfl | rfl | rfl | rfl | rfl | rfl | rfl | rfl | rfl | rfl | rfl | rfl | rfl | rfl | rfl | rfl | rfl | rfl | rfl | rfl | rfl | rfl | rfl | rfl | rfl | rfl | rfl | rfl | rfl <;>
    (clear b0 b1; unfold wideV; simp only [IntKind.wrap_u64, Nat.reduceSub, Int.reducePow, Int.pow_zero, Int.mul_one, Nat.sub_self]; split <;> omega)
theorem wide_all (u : Int) (h0 : 0 ≤ u) (h1 : u ≤ 18446744073709551615) : wideV u 64 = wrap64 u := by
  unfold wideV wrap64
  simp only [Nat.reduceSub, Int.reducePow]
  split <;> omega
end Go.Proofs.YtdiajdbjlhfkpaaDoor
