/- StampFolds: folded, numbers near nought are small, whatever their sign. -/
import Derived.Test.YtdiajdbjlhfkpaaDoorStLen
import Derived.Test.YtdiajdbjlhfkpaaDoorStampWideLaw
set_option linter.unusedVariables false
set_option linter.unusedSimpArgs false
namespace Go.Proofs.YtdiajdbjlhfkpaaDoor
open Go.RowKit
theorem fold_fits (v : Int) (b : Nat) (b0 : 1 ≤ b) : fold v < 2 ^ b ↔ (-2 ^ (b - 1) ≤ v ∧ v < 2 ^ (b - 1)) := by
  obtain ⟨j, rfl⟩ : ∃ j, b = j + 1 := ⟨b - 1, by omega⟩
  rw [Nat.add_sub_cancel, Int.pow_succ]
  generalize (2 : Int) ^ j = p
  unfold fold
  split <;> omega
set_option maxHeartbeats 1000000 in
theorem stFolds_walk (v : Int) (b : Int) (w : World) (h0 : -9223372036854775808 ≤ v) (h1 : v ≤ 9223372036854775807) :
    Calls Tryd.prog 6 #[.int .i64 v, .int .i64 b] w fun e w' => e = .returned (.bool true) ∧ Below w.heap.size w w' := by
  have hcase : b < 1 ∨ (1 ≤ b ∧ 62 < b) ∨ (1 ≤ b ∧ b ≤ 62) := by omega
  rcases hcase with h | ⟨h2, h3⟩ | ⟨h2, h3⟩
  case inr.inr =>
    obtain ⟨k, rfl⟩ := Int.eq_ofNat_of_zero_le (show 0 ≤ b by omega)
    obtain ⟨p0, p1⟩ := pow_bd k (by omega) (by omega)
    obtain ⟨f0, f1⟩ := fold_bd v h0 h1
    have HF := Lib.hid (stamp_fold v w h0 h1)
    have HN := Lib.hid (st_narrow (fold v) k w f0 f1 (by omega) (by omega))
    have hiff := fold_fits v k (by omega)
    generalize fold v = f at *
    by_cases c1 : v < -2 ^ (k - 1)
    · have hd : decide (f < 2 ^ k) = false := decide_eq_false (fun h => by have := (hiff.1 h).1; omega)
      rw [hd] at HN
      clear hiff hd
      generalize (if f < 2 ^ k then f else 0) = g at *
      go_enter Tryd.func6, Tryd.ntmps6
      go_wp2_with (first
        | (go_at_call 10; refine (st_awake _).mono ?_; rintro e w' ⟨rfl, rfl⟩)
        | (go_at_call 18; refine HF.out.mono ?_; rintro e w' ⟨rfl, rfl⟩)
        | (go_at_call 17; refine HN.out.mono ?_; rintro e w' ⟨rfl, rfl⟩))
      go_ret
      exact ⟨rfl, Below.refl _ _⟩
    · have c1' := Int.not_lt.1 c1
      have e1 : decide (-2 ^ (k - 1) ≤ v) = true := decide_eq_true c1'
      by_cases c2 : 2 ^ (k - 1) ≤ v
      · have e2 : decide (v < 2 ^ (k - 1)) = false := decide_eq_false (Int.not_lt.2 c2)
        have hd : decide (f < 2 ^ k) = false := decide_eq_false (fun h => by have := (hiff.1 h).2; omega)
        rw [hd] at HN
        clear hiff hd
        generalize (if f < 2 ^ k then f else 0) = g at *
        go_enter Tryd.func6, Tryd.ntmps6
        go_wp2_with (first
          | (go_at_call 10; refine (st_awake _).mono ?_; rintro e w' ⟨rfl, rfl⟩)
          | (go_at_call 18; refine HF.out.mono ?_; rintro e w' ⟨rfl, rfl⟩)
          | (go_at_call 17; refine HN.out.mono ?_; rintro e w' ⟨rfl, rfl⟩))
        go_ret
        exact ⟨rfl, Below.refl _ _⟩
      · have c2' := Int.not_le.1 c2
        have e2 : decide (v < 2 ^ (k - 1)) = true := decide_eq_true c2'
        have hd : decide (f < 2 ^ k) = true := decide_eq_true (hiff.2 ⟨by omega, by omega⟩)
        rw [hd] at HN
        clear hiff hd
        generalize (if f < 2 ^ k then f else 0) = g at *
        go_enter Tryd.func6, Tryd.ntmps6
        go_wp2_with (first
          | (go_at_call 10; refine (st_awake _).mono ?_; rintro e w' ⟨rfl, rfl⟩)
          | (go_at_call 18; refine HF.out.mono ?_; rintro e w' ⟨rfl, rfl⟩)
          | (go_at_call 17; refine HN.out.mono ?_; rintro e w' ⟨rfl, rfl⟩))
        go_ret
        exact ⟨rfl, Below.refl _ _⟩
  all_goals
    go_enter Tryd.func6, Tryd.ntmps6
    go_wp2_with fail
    refine (st_awake _).mono ?_
    rintro e w' ⟨rfl, rfl⟩
    go_wp2
    go_ret
    exact ⟨rfl, Below.refl _ _⟩
theorem stampFolds_law (v0 v1 : Value) (x0 x1 : Int) (w : World) (w0 : RepV w (.int .i64) v0 x0) (w1 : RepV w (.int .i64) v1 x1) :
    Calls Tryd.prog 6 #[v0, v1] w fun e w' => e = .returned (.bool true) ∧ Below w.heap.size w w' := by
  obtain ⟨rfl, h0⟩ := repV_int w0
  obtain ⟨rfl, h1⟩ := repV_int w1
  have u0 := wf_bd_i64 h0
  exact stFolds_walk x0 x1 w u0.1 u0.2
end Go.Proofs.YtdiajdbjlhfkpaaDoor
