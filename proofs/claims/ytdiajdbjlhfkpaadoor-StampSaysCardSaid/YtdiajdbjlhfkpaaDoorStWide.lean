/- Wide. -/
import Derived.Test.YtdiajdbjlhfkpaaDoorStPack
import Derived.Test.YtdiajdbjlhfkpaaDoorBits
set_option linter.unusedVariables false
set_option linter.unusedSimpArgs false
namespace Go.Proofs.YtdiajdbjlhfkpaaDoor
open Go.RowKit
def wideV (u : Int) (b : Nat) : Int := if u % 2 ^ b < 2 ^ (b - 1) then u % 2 ^ b else u % 2 ^ b - 2 ^ b
theorem cases64 (b : Nat) (b0 : 1 ≤ b) (b1 : b ≤ 64) : b = 1 ∨ b = 2 ∨ b = 3 ∨ b = 4 ∨ b = 5 ∨ b = 6 ∨ b = 7 ∨ b = 8 ∨ b = 9 ∨ b = 10 ∨ b = 11 ∨ b = 12 ∨ b = 13 ∨ b = 14 ∨ b = 15 ∨ b = 16 ∨ b = 17 ∨ b = 18 ∨ b = 19 ∨ b = 20 ∨ b = 21 ∨ b = 22 ∨ b = 23 ∨ b = 24 ∨ b = 25 ∨ b = 26 ∨ b = 27 ∨ b = 28 ∨ b = 29 ∨ b = 30 ∨ b = 31 ∨ b = 32 ∨ b = 33 ∨ b = 34 ∨ b = 35 ∨ b = 36 ∨ b = 37 ∨ b = 38 ∨ b = 39 ∨ b = 40 ∨ b = 41 ∨ b = 42 ∨ b = 43 ∨ b = 44 ∨ b = 45 ∨ b = 46 ∨ b = 47 ∨ b = 48 ∨ b = 49 ∨ b = 50 ∨ b = 51 ∨ b = 52 ∨ b = 53 ∨ b = 54 ∨ b = 55 ∨ b = 56 ∨ b = 57 ∨ b = 58 ∨ b = 59 ∨ b = 60 ∨ b = 61 ∨ b = 62 ∨ b = 63 ∨ b = 64 := by omega
set_option maxHeartbeats 4000000 in
theorem wide_val (u : Int) (b : Nat) (h0 : 0 ≤ u) (h1 : u ≤ 18446744073709551615) (b0 : 1 ≤ b) (b1 : b ≤ 64) :
    wrap64 (IntKind.u64.wrap (u * 2 ^ (64 - b))) / 2 ^ (64 - b) = wideV u b := by
  rcases cases64 b b0 b1 with rfl | rfl | rfl | rfl | rfl | rfl | rfl | rfl | rfl | rfl | rfl | rfl | rfl | rfl | rfl | rfl | rfl | rfl | rfl | rfl | rfl | rfl | rfl | rfl | rfl | rfl | rfl | rfl | rfl | rfl | rfl | rfl | rfl | rfl | rfl | rfl | rfl | rfl | rfl | rfl | rfl | rfl | rfl | rfl | rfl | rfl | rfl | rfl | rfl | rfl | rfl | rfl | rfl | rfl | rfl | rfl | rfl | rfl | rfl | rfl | rfl | rfl | rfl | rfl <;>
    (clear b0 b1; unfold wideV wrap64; rw [IntKind.wrap_u64]; simp only [Nat.reduceSub, Int.reducePow, Int.pow_zero, Int.ediv_one, Int.mul_one, Nat.sub_self]; split <;> omega)
set_option maxHeartbeats 1000000 in
theorem st_wide (u : Int) (b : Nat) (w : World) (h0 : 0 ≤ u) (h1 : u ≤ 18446744073709551615) (b0 : 1 ≤ b) (b1 : b ≤ 64) :
    Calls Tryd.prog 11 #[.int .u64 u, .int .i64 b] w fun e w' => e = .returned (.int .i64 (wideV u b)) ∧ w = w' := by
  have hv := wide_val u b h0 h1 b0 b1
  go_enter Tryd.func11, Tryd.ntmps11
  go_wp2
  go_ret
  exact ⟨rfl, rfl⟩
end Go.Proofs.YtdiajdbjlhfkpaaDoor
