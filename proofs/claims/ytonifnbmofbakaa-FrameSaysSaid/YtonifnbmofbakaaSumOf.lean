/- Of alone. -/
import Derived.Test.YtonifnbmofbakaaSumWalks
set_option linter.unusedVariables false
set_option linter.unusedSimpArgs false
namespace Go.Proofs.Ytonifnbmofbakaa
open Go.RowKit
set_option maxHeartbeats 400000 in
theorem sum_of (a : Option Addr) (n c : Nat) (zs : List Int) (w : World) (hS : Sl .u8 w a n c zs) (hB : IsB zs) :
    Calls Try.prog 20 #[.slice a n c] w fun e w' => e = .returned (.int .u32 (sumOf zs)) ∧ w = w' := by
  have HB := Lib.hid hB
  clear hB
  have HS := Lib.hid hS
  clear hS
  go_enter Try.func20, Try.ntmps20
  go_wp2_with (go_at_call 19; refine (sum_on_yes 1 a n c zs _ (by omega) (by omega) (by decide) HS.out HB.out).mono ?_; rintro e w' ⟨rfl, rfl⟩)
  go_ret
  exact ⟨rfl, rfl⟩
end Go.Proofs.Ytonifnbmofbakaa
