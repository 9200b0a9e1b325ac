/- StampWide: a number with a sign that fits is told again of its lowest bits. -/
import Derived.Test.YtdiajdbjlhfkpaaDoorStSmall
import Derived.Test.YtdiajdbjlhfkpaaDoorTy
set_option linter.unusedVariables false
set_option linter.unusedSimpArgs false
namespace Go.Proofs.YtdiajdbjlhfkpaaDoor
open Go.RowKit
theorem pow_bd (b : Nat) (b0 : 1 ≤ b) (b1 : b ≤ 63) : (1 : Int) ≤ 2 ^ (b - 1) ∧ (2 : Int) ^ (b - 1) ≤ 4611686018427387904 := by
  have h : ∀ k : Fin 63, (1 : Int) ≤ 2 ^ k.val ∧ (2 : Int) ^ k.val ≤ 4611686018427387904 := by decide +kernel
  exact h ⟨b - 1, by omega⟩
theorem wide_back (v : Int) (b : Nat) (b0 : 1 ≤ b) (b1 : b ≤ 64) (h0 : -2 ^ (b - 1) ≤ v) (h1 : v < 2 ^ (b - 1)) : wideV (IntKind.u64.wrap v) b = v := by
  obtain ⟨j, rfl⟩ : ∃ j, b = j + 1 := ⟨b - 1, by omega⟩
  have hp : (1 : Int) ≤ 2 ^ j := Int.pow_pos (by omega)
  have h64 : ((2 : Int) ^ (j + 1)) ∣ 18446744073709551616 := ⟨2 ^ (63 - j), by rw [← Int.pow_add, show j + 1 + (63 - j) = 64 by omega]; decide⟩
  unfold wideV
  rw [IntKind.wrap_u64, Int.emod_emod_of_dvd _ h64, Nat.add_sub_cancel]
  rw [Nat.add_sub_cancel] at h0 h1
  rw [Int.pow_succ]
  by_cases hv : 0 ≤ v
  · rw [Int.emod_eq_of_lt hv (by omega), if_pos h1]
  · rw [show v % (2 ^ j * 2) = v + 2 ^ j * 2 by rw [← Int.add_emod_right v (2 ^ j * 2), Int.emod_eq_of_lt (by omega) (by omega)], if_neg (by omega)]; omega
set_option maxHeartbeats 1000000 in
theorem stWide_walk (v : Int) (b : Int) (w : World) (h0 : -9223372036854775808 ≤ v) (h1 : v ≤ 9223372036854775807) :
    Calls Tryd.prog 3 #[.int .i64 v, .int .i64 b] w fun e w' => e = .returned (.bool true) ∧ Below w.heap.size w w' := by
  have hu : 0 ≤ IntKind.u64.wrap v ∧ IntKind.u64.wrap v ≤ 18446744073709551615 := by rw [IntKind.wrap_u64]; omega
  have hcase : b < 1 ∨ (1 ≤ b ∧ 64 < b) ∨ b = 64 ∨ (1 ≤ b ∧ b < 64) := by omega
  rcases hcase with h | ⟨h2, h3⟩ | rfl | ⟨h2, h3⟩
  case inr.inr.inr =>
    obtain ⟨k, rfl⟩ := Int.eq_ofNat_of_zero_le (show 0 ≤ b by omega)
    obtain ⟨p0, p1⟩ := pow_bd k (by omega) (by omega)
    by_cases c1 : v < -2 ^ (k - 1)
    · go_enter Tryd.func3, Tryd.ntmps3
      go_wp2_with fail
      refine (st_awake _).mono ?_
      rintro e w' ⟨rfl, rfl⟩
      go_wp2
      go_ret
      exact ⟨rfl, Below.refl _ _⟩
    · by_cases c2 : 2 ^ (k - 1) ≤ v
      · go_enter Tryd.func3, Tryd.ntmps3
        go_wp2_with fail
        refine (st_awake _).mono ?_
        rintro e w' ⟨rfl, rfl⟩
        go_wp2
        go_ret
        exact ⟨rfl, Below.refl _ _⟩
      · have hW := Lib.hid (st_wide (IntKind.u64.wrap v) k w hu.1 hu.2 (by omega) (by omega))
        rw [wide_back v k (by omega) (by omega) (by omega) (by omega)] at hW
        clear hu
        go_enter Tryd.func3, Tryd.ntmps3
        go_wp2_with fail
        refine (st_awake _).mono ?_
        rintro e w' ⟨rfl, rfl⟩
        go_wp2_with fail
        refine hW.out.mono ?_
        rintro e w' ⟨rfl, rfl⟩
        go_wp2
        go_ret
        exact ⟨rfl, Below.refl _ _⟩
  case inr.inr.inl =>
    have hW := Lib.hid (st_wide (IntKind.u64.wrap v) 64 w hu.1 hu.2 (by omega) (by omega))
    rw [wide_back v 64 (by omega) (by omega) (by rw [show (2 : Int) ^ (64 - 1) = 9223372036854775808 by decide]; omega) (by rw [show (2 : Int) ^ (64 - 1) = 9223372036854775808 by decide]; omega)] at hW
    clear hu
    go_enter Tryd.func3, Tryd.ntmps3
    go_wp2_with fail
    refine (st_awake _).mono ?_
    rintro e w' ⟨rfl, rfl⟩
    go_wp2_with fail
    refine hW.out.mono ?_
    rintro e w' ⟨rfl, rfl⟩
    go_wp2
    go_ret
    exact ⟨rfl, Below.refl _ _⟩
  all_goals
    go_enter Tryd.func3, Tryd.ntmps3
    go_wp2_with fail
    refine (st_awake _).mono ?_
    rintro e w' ⟨rfl, rfl⟩
    go_wp2
    go_ret
    exact ⟨rfl, Below.refl _ _⟩
theorem stampWide_law (v0 v1 : Value) (x0 x1 : Int) (w : World) (w0 : RepV w (.int .i64) v0 x0) (w1 : RepV w (.int .i64) v1 x1) :
    Calls Tryd.prog 3 #[v0, v1] w fun e w' => e = .returned (.bool true) ∧ Below w.heap.size w w' := by
  obtain ⟨rfl, h0⟩ := repV_int w0
  obtain ⟨rfl, h1⟩ := repV_int w1
  have u0 := wf_bd_i64 h0
  exact stWide_walk x0 x1 w u0.1 u0.2
end Go.Proofs.YtdiajdbjlhfkpaaDoor
