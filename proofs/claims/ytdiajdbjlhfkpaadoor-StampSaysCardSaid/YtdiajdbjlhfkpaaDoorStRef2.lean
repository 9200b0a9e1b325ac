/- The document's stamps: Wide; Num, Text. -/
import Derived.Test.YtdiajdbjlhfkpaaDoorStRef
import Derived.Test.YtdiajdbjlhfkpaaDoorStBk
set_option linter.unusedVariables false
set_option linter.unusedSimpArgs false
namespace Go.Proofs.YtdiajdbjlhfkpaaDoor
open Go.RowKit
set_option maxHeartbeats 2000000 in
theorem rs_wide (u : Int) (k : Nat) (w : World) (h0 : 0 ≤ u) (h1 : u ≤ 18446744073709551615) (b0 : 1 ≤ k) (b1 : k ≤ 64) :
    Calls Tryd.prog 30 #[.int .u64 u, .int .i64 k] w fun e w' => e = .returned (.int .i64 (wideV u k)) ∧ w = w' := by
  by_cases hk : k = 64
  · subst hk
    have hw := wide_all u h0 h1
    go_enter Tryd.func30, Tryd.ntmps30
    go_wp2
    go_ret
    exact ⟨ret_int hw.symm, rfl⟩
  · obtain ⟨j, rfl⟩ : ∃ j, k = j + 1 := ⟨k - 1, by omega⟩
    have hj : j ≤ 62 := by omega
    have hT := Lib.hid (fun W => rs_two (j + 1) (by omega) W)
    have hH := Lib.hid (fun W => rs_two j (by omega) W)
    have hp : (1 : Int) ≤ 2 ^ j ∧ (2 : Int) ^ j ≤ 4611686018427387904 := by
      have h : ∀ k : Fin 63, (1 : Int) ≤ 2 ^ k.val ∧ (2 : Int) ^ k.val ≤ 4611686018427387904 := by decide +kernel
      exact h ⟨j, by omega⟩
    unfold wideV
    rw [Nat.add_sub_cancel]
    rw [Int.pow_succ] at hT ⊢
    have m0 := Int.emod_nonneg u (show (2 : Int) ^ j * 2 ≠ 0 by omega)
    have m1 := Int.emod_lt_of_pos u (show (0 : Int) < 2 ^ j * 2 by omega)
    have hz : ((2 : Int) ^ j * 2 == 0) = false := by rw [beq_eq_false_iff_ne]; omega
    have hne : (2 : Int) ^ j * 2 ≠ 0 := by omega
    clear b1 hk b0
    by_cases hc : u % (2 ^ j * 2) < 2 ^ j
    · rw [if_pos hc]
      obtain ⟨m, hm⟩ : ∃ m, u % (2 ^ j * 2) = m := ⟨_, rfl⟩
      rw [hm] at m0 m1 hc ⊢
      generalize (2 : Int) ^ j = q at *
      obtain ⟨q2, hq2⟩ : ∃ m, q * 2 = m := ⟨_, rfl⟩
      rw [hq2] at hT hm hz hne m1
      have hq2' : q2 ≤ 9223372036854775808 ∧ 2 ≤ q2 := by omega
      clear hq2
      go_enter Tryd.func30, Tryd.ntmps30
      go_wp2_with fail
      refine (hT.out _).mono ?_
      rintro e w' ⟨rfl, rfl⟩
      go_wp2_with fail
      refine (hH.out _).mono ?_
      rintro e w' ⟨rfl, rfl⟩
      go_wp2_with fail
      go_ret
      exact ⟨rfl, rfl⟩
    · rw [if_neg hc]
      have hc' := Int.not_lt.1 hc
      clear hc
      obtain ⟨m, hm⟩ : ∃ m, u % (2 ^ j * 2) = m := ⟨_, rfl⟩
      rw [hm] at m0 m1 hc' ⊢
      generalize (2 : Int) ^ j = q at *
      obtain ⟨q2, hq2⟩ : ∃ m, q * 2 = m := ⟨_, rfl⟩
      have hres : m - q - q = m - q * 2 := by omega
      rw [hq2] at hT hm hz hne m1
      rw [← hres]
      have hq2' : q2 ≤ 9223372036854775808 ∧ 2 ≤ q2 := by omega
      clear hq2 hres
      go_enter Tryd.func30, Tryd.ntmps30
      go_wp2_with fail
      refine (hT.out _).mono ?_
      rintro e w' ⟨rfl, rfl⟩
      go_wp2_with fail
      refine (hH.out _).mono ?_
      rintro e w' ⟨rfl, rfl⟩
      go_wp2_with fail
      refine (hH.out _).mono ?_
      rintro e w' ⟨rfl, rfl⟩
      go_wp2_with fail
      refine (hH.out _).mono ?_
      rintro e w' ⟨rfl, rfl⟩
      go_wp2_with fail
      go_ret
      exact ⟨rfl, rfl⟩
end Go.Proofs.YtdiajdbjlhfkpaaDoor
