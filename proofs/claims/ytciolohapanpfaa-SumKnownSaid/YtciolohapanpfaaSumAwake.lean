/- The walk of the laws' own 'awake': it answers true, and what was there is as it was. -/
import Derived.Test.YtciolohapanpfaaSumRef2
set_option linter.unusedVariables false
set_option linter.unusedSimpArgs false
namespace Go.Proofs.Ytciolohapanpfaa
open Go.RowKit
set_option maxHeartbeats 400000 in
theorem awake_any (w : World) : Calls Try.prog 8 #[] w fun e w' => e = .returned (.bool true) ∧ Below w.heap.size w w' := by
  have H1 := Lib.hid (sum_of (some ⟨w.heap.size, 0, none⟩) 1 1 [97] _ (sl_lit .u8 w 5 (1, 2) [97] 1 rfl (by unfold maxLen; omega)) (by intro i; cases i <;> simp))
  have H2 := fun w => Lib.hid (sum_of none 0 0 [] w (sl_nil .u8 w) (by intro i; simp))
  have kc := fun (w : World) (C : Array Value) (n c : Nat) => Lib.run_convert_bytes_const (P := Try.prog) w 22 5 C n c Try.underlying22 Try.underlying5
  go_enter Try.func8, Try.ntmps8
  go_wp2_with fail
  refine H1.out.mono ?_
  rintro e w' ⟨rfl, rfl⟩
  rw [show sumOf [97] = 6422626 by decide +kernel]
  go_wp2_with fail
  refine (H2 _).out.mono ?_
  rintro e w' ⟨rfl, rfl⟩
  rw [show sumOf [] = 1 by decide +kernel]
  go_wp2_with (go_at_call 13; refine (sum_good_yes 1 _ (by omega) (by omega) (by decide)).mono ?_; rintro e w' ⟨rfl, rfl⟩)
  go_ret
  exact ⟨rfl, (Below.refl _ _).alloc (Nat.le_refl _) _⟩
end Go.Proofs.Ytciolohapanpfaa
