/- The document's stamps: Pack, Epoch, Off, Fold, two, Narrow. -/
import Derived.Test.YtdiajdbjlhfkpaaDoorStKn
set_option linter.unusedVariables false
set_option linter.unusedSimpArgs false
namespace Go.Proofs.YtdiajdbjlhfkpaaDoor
open Go.RowKit
theorem rs_epoch (s : Int) (w : World) (h0 : 0 ≤ s) (h1 : s ≤ 18446744073709551615) : Calls Tryd.prog 25 #[.int .u64 s] w fun e w' => e = .returned (.int .i64 (epI s)) ∧ w = w' := by
  go_enter Tryd.func25, Tryd.ntmps25
  go_wp2
  go_ret
  exact ⟨ret_int (by unfold epI; omega), rfl⟩
theorem rs_off (s : Int) (w : World) (h0 : 0 ≤ s) (h1 : s ≤ 18446744073709551615) : Calls Tryd.prog 26 #[.int .u64 s] w fun e w' => e = .returned (.int .i64 (ofI s)) ∧ w = w' := by
  go_enter Tryd.func26, Tryd.ntmps26
  go_wp2
  go_ret
  exact ⟨ret_int (by unfold ofI; omega), rfl⟩
theorem rs_pack_yes (e o : Int) (w : World) (e0 : 0 ≤ e) (e1 : e ≤ 1048575) (o0 : 0 ≤ o) (o1 : o ≤ 17592186044415) :
    Calls Tryd.prog 22 #[.int .i64 e, .int .i64 o] w fun E w' => E = .returned (.tuple #[.int .u64 (e * 17592186044416 + o), .bool true]) ∧ w = w' := by
  go_enter Tryd.func22, Tryd.ntmps22
  go_wp2
  exact bodyPost_ret (v := .tuple #[.int .u64 (e * 17592186044416 + o), .bool true]) (by simp [results, Tryd.results22, go_sem]) rfl ⟨rfl, rfl⟩
theorem rs_pack_no (e o : Int) (w : World) (h : e < 0 ∨ 1048575 < e ∨ o < 0 ∨ 17592186044415 < o) :
    Calls Tryd.prog 22 #[.int .i64 e, .int .i64 o] w fun E w' => E = .returned (.tuple #[.int .u64 0, .bool false]) ∧ w = w' := by
  have h' : e < 0 ∨ (0 ≤ e ∧ 1048576 ≤ e) ∨ (0 ≤ e ∧ e < 1048576 ∧ o < 0) ∨ (0 ≤ e ∧ e < 1048576 ∧ 0 ≤ o ∧ 17592186044416 ≤ o) := by omega
  rcases h' with h | ⟨h1, h2⟩ | ⟨h1, h2, h3⟩ | ⟨h1, h2, h3, h4⟩
  all_goals
    go_enter Tryd.func22, Tryd.ntmps22
    go_wp2
    exact bodyPost_ret (v := .tuple #[.int .u64 0, .bool false]) (by simp [results, Tryd.results22, go_sem]) rfl ⟨rfl, rfl⟩
theorem rs_fold (v : Int) (w : World) (h0 : -9223372036854775808 ≤ v) (h1 : v ≤ 9223372036854775807) :
    Calls Tryd.prog 28 #[.int .i64 v] w fun e w' => e = .returned (.int .u64 (fold v)) ∧ w = w' := by
  by_cases hv : 0 ≤ v
  · go_enter Tryd.func28, Tryd.ntmps28
    go_wp2
    go_ret
    refine ⟨ret_int ?_, rfl⟩
    unfold fold; rw [if_pos hv]; omega
  · have hv' : v < 0 := by omega
    go_enter Tryd.func28, Tryd.ntmps28
    go_wp2
    go_ret
    refine ⟨ret_int ?_, rfl⟩
    unfold fold; rw [if_neg (by omega)]; omega
theorem rs_unfold (u : Int) (w : World) (h0 : 0 ≤ u) (h1 : u ≤ 18446744073709551615) :
    Calls Tryd.prog 29 #[.int .u64 u] w fun e w' => e = .returned (.int .i64 (unfold u)) ∧ w = w' := by
  by_cases hv : u % 2 = 0
  · go_enter Tryd.func29, Tryd.ntmps29
    go_wp2
    go_ret
    refine ⟨ret_int ?_, rfl⟩
    unfold unfold; rw [if_pos hv]
  · have hv' : u % 2 = 1 := by omega
    go_enter Tryd.func29, Tryd.ntmps29
    go_wp2
    go_ret
    refine ⟨ret_int ?_, rfl⟩
    unfold unfold; rw [if_neg hv]; omega
set_option maxHeartbeats 1000000 in
theorem rs_two (k : Nat) (hk : k ≤ 63) (w : World) : Calls Tryd.prog 36 #[.int .i64 (k : Nat)] w fun e w' => e = .returned (.int .u64 (2 ^ k)) ∧ w = w' := by
  have HB := Lib.hid (show ∀ i : Nat, i < 63 → (2 : Int) ^ i * 2 ≤ 18446744073709551615 ∧ 0 ≤ (2 : Int) ^ i from fun i hi => by
    have h : ∀ k : Fin 63, (2 : Int) ^ k.val * 2 ≤ 18446744073709551615 ∧ 0 ≤ (2 : Int) ^ k.val := by decide +kernel
    exact h ⟨i, hi⟩)
  go_enter Tryd.func36, Tryd.ntmps36
  go_wp2
  go_loopw [3, 4] (fun a b wr => ∃ (i : Nat) (p : Int), b = .int .i64 (i : Nat) ∧ i ≤ k ∧ a = .int .u64 p ∧ Hid (p = 2 ^ i) ∧ wr = w) (fun _ b _ => k - (intOf b).toNat)
  case atStart => exact ⟨0, 1, rfl, by omega, rfl, rfl, rfl⟩
  case round =>
    obtain ⟨i, p, rfl, hi, rfl, Hp, rfl⟩ := hrel
    by_cases hlt : i < k
    · have hlt' : (i : Int) < k := by omega
      obtain ⟨b1, b0⟩ := HB.out i (by omega)
      rw [← Hp.out] at b1 b0
      go_wp2_with fail
      go_roundw
      case rel => exact ⟨i + 1, p * 2, by go_num, by omega, by go_num, by show p * 2 = 2 ^ (i + 1); rw [Hp.out, Int.pow_succ], trivial⟩
      case measure => simp [intOf]; omega
    · have hge : (k : Int) ≤ i := by omega
      obtain rfl : i = k := by omega
      go_wp2_with fail
      go_ret
      exact ⟨by have h := Hp.out; subst h; rfl, rfl⟩
set_option maxHeartbeats 1000000 in
theorem rs_narrow_no (u b : Int) (w : World) (h : b < 1 ∨ 64 < b) :
    Calls Tryd.prog 24 #[.int .u64 u, .int .i64 b] w fun e w' => e = .returned (.tuple #[.int .u64 0, .bool false]) ∧ w = w' := by
  have h' : b < 1 ∨ (1 ≤ b ∧ 64 < b) := by omega
  rcases h' with h | ⟨h1, h2⟩
  all_goals
    go_enter Tryd.func24, Tryd.ntmps24
    go_wp2
    exact bodyPost_ret (v := .tuple #[.int .u64 0, .bool false]) (by simp [results, Tryd.results24, go_sem]) rfl ⟨rfl, rfl⟩
set_option maxHeartbeats 1000000 in
theorem rs_narrow (u : Int) (k : Nat) (w : World) (h0 : 0 ≤ u) (h1 : u ≤ 18446744073709551615) (b0 : 1 ≤ k) (b1 : k ≤ 64) :
    Calls Tryd.prog 24 #[.int .u64 u, .int .i64 k] w fun e w' => e = .returned (.tuple #[.int .u64 (if u < 2 ^ k then u else 0), .bool (decide (u < 2 ^ k))]) ∧ w = w' := by
  by_cases hk : k = 64
  · subst hk
    have h64 : u < 2 ^ 64 := by omega
    rw [if_pos h64, decide_eq_true h64]
    clear h64
    go_enter Tryd.func24, Tryd.ntmps24
    go_wp2
    exact bodyPost_ret (v := .tuple #[.int .u64 u, .bool true]) (by simp [results, Tryd.results24, go_sem]) rfl ⟨rfl, rfl⟩
  · have hk2 : k ≤ 63 := by omega
    clear b1 hk
    have HT := Lib.hid (fun W => rs_two k hk2 W)
    by_cases hu : u < 2 ^ k
    · rw [if_pos hu, decide_eq_true hu]
      generalize (2 : Int) ^ k = q at *
      go_enter Tryd.func24, Tryd.ntmps24
      go_wp2_with fail
      refine (HT.out _).mono ?_
      rintro e w' ⟨rfl, rfl⟩
      go_wp2_with fail
      exact bodyPost_ret (v := .tuple #[.int .u64 u, .bool true]) (by simp [results, Tryd.results24, go_sem]) rfl ⟨rfl, rfl⟩
    · rw [if_neg hu, decide_eq_false hu]
      have hu' := Int.not_lt.1 hu
      clear hu
      generalize (2 : Int) ^ k = q at *
      go_enter Tryd.func24, Tryd.ntmps24
      go_wp2_with fail
      refine (HT.out _).mono ?_
      rintro e w' ⟨rfl, rfl⟩
      go_wp2_with fail
      exact bodyPost_ret (v := .tuple #[.int .u64 0, .bool false]) (by simp [results, Tryd.results24, go_sem]) rfl ⟨rfl, rfl⟩
set_option maxHeartbeats 1000000 in
theorem rs_wide_no (u b : Int) (w : World) (h : b < 1 ∨ 64 < b) :
    Calls Tryd.prog 30 #[.int .u64 u, .int .i64 b] w fun e w' => e = .returned (.int .i64 0) ∧ w = w' := by
  have h' : b < 1 ∨ (1 ≤ b ∧ 64 < b) := by omega
  rcases h' with h | ⟨h1, h2⟩
  all_goals
    go_enter Tryd.func30, Tryd.ntmps30
    go_wp2
    go_ret
    exact ⟨rfl, rfl⟩
end Go.Proofs.YtdiajdbjlhfkpaaDoor
