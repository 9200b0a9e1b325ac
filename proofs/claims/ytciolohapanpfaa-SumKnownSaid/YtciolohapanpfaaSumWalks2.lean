/- The walks of package sum, second part: Of, Join, Turn. -/
import Derived.Test.YtciolohapanpfaaSumWalks
set_option linter.unusedVariables false
set_option linter.unusedSimpArgs false
namespace Go.Proofs.Ytciolohapanpfaa
open Go.RowKit
set_option maxHeartbeats 400000 in
theorem sum_of (a : Option Addr) (n c : Nat) (zs : List Int) (w : World) (hS : Sl .u8 w a n c zs) (hB : IsB zs) :
    Calls Try.prog 9 #[.slice a n c] w fun e w' => e = .returned (.int .u32 (sumOf zs)) ∧ w = w' := by
  have HB := Lib.hid hB
  clear hB
  have HS := Lib.hid hS
  clear hS
  go_enter Try.func9, Try.ntmps9
  go_wp2_with (go_at_call 12; refine (sum_on_yes 1 a n c zs _ (by omega) (by omega) (by decide) HS.out HB.out).mono ?_; rintro e w' ⟨rfl, rfl⟩)
  go_ret
  exact ⟨rfl, rfl⟩
theorem mul_bd (x y A B C : Int) (h0 : 0 ≤ x) (h1 : x ≤ A) (h2 : -B ≤ y) (h3 : y ≤ C) (hB : 0 ≤ B) (hC : 0 ≤ C) : -(A * B) ≤ x * y ∧ x * y ≤ A * C := by
  constructor
  · have a1 : x * (-B) ≤ x * y := Int.mul_le_mul_of_nonneg_left h2 h0
    have a2 : x * B ≤ A * B := Int.mul_le_mul_of_nonneg_right h1 hB
    rw [Int.mul_neg] at a1
    omega
  · have a1 : x * y ≤ x * C := Int.mul_le_mul_of_nonneg_left h3 h0
    have a2 : x * C ≤ A * C := Int.mul_le_mul_of_nonneg_right h1 hC
    omega
theorem good_parts (s : Int) (hg : goodB s = true) : s % 65536 < 65521 ∧ s / 65536 < 65521 := by simpa [goodB] using hg
set_option maxHeartbeats 400000 in
theorem sum_join_yes (s t n : Int) (w : World) (h0 : 0 ≤ s) (h1 : s ≤ 4294967295) (h2 : 0 ≤ t) (h3 : t ≤ 4294967295) (hn : 0 ≤ n) (hn1 : n ≤ 9223372036854775807) (gs : goodB s = true) (gt : goodB t = true) :
    Calls Try.prog 10 #[.int .u32 s, .int .u32 t, .int .i64 n] w fun e w' => e = .returned (.tuple #[.int .u32 (joinV s t n), .bool true]) ∧ w = w' := by
  obtain ⟨p1, p2⟩ := good_parts s gs
  obtain ⟨p3, p4⟩ := good_parts t gt
  obtain ⟨q1, q2⟩ := mul_bd (n % 65521) (s % 65536 - 1) 65520 1 65520 (by omega) (by omega) (by omega) (by omega) (by omega) (by omega)
  go_enter Try.func10, Try.ntmps10
  go_wp2_with (first | (go_at_call 13; (first | (with_reducible refine (sum_good_yes s _ h0 h1 gs).mono ?_) | (with_reducible refine (sum_good_yes t _ h2 h3 gt).mono ?_)); rintro e w' ⟨rfl, rfl⟩) | (go_at_call 19; refine (sum_parts _ _ (by omega) (by omega)).mono ?_; rintro e w' ⟨rfl, rfl⟩) | (go_at_call 20; refine (sum_made _ _ _ (by omega) (by omega) (by omega) (by omega)).mono ?_; rintro e w' ⟨rfl, rfl⟩))
  go_ret2
  exact ⟨rfl, rfl⟩
set_option maxHeartbeats 400000 in
theorem sum_join_no (s t n : Int) (w : World) (h0 : 0 ≤ s) (h1 : s ≤ 4294967295) (h2 : 0 ≤ t) (h3 : t ≤ 4294967295) (hno : goodB s = false ∨ goodB t = false ∨ n < 0) :
    Calls Try.prog 10 #[.int .u32 s, .int .u32 t, .int .i64 n] w fun e w' => e = .returned (.tuple #[.int .u32 0, .bool false]) ∧ w = w' := by
  cases gs : goodB s
  · have G := Lib.hid gs
    clear gs hno
    go_enter Try.func10, Try.ntmps10
    go_wp2_with (go_at_call 13; refine (sum_good_no s _ h0 h1 G.out).mono ?_; rintro e w' ⟨rfl, rfl⟩)
    go_ret2
    exact ⟨rfl, rfl⟩
  · cases gt : goodB t
    · have G := Lib.hid gs
      have G' := Lib.hid gt
      clear gs gt hno
      go_enter Try.func10, Try.ntmps10
      go_wp2_with (go_at_call 13; (first | (with_reducible refine (sum_good_yes s _ h0 h1 G.out).mono ?_) | (with_reducible refine (sum_good_no t _ h2 h3 G'.out).mono ?_)); rintro e w' ⟨rfl, rfl⟩)
      go_ret2
      exact ⟨rfl, rfl⟩
    · have hn : n < 0 := by rcases hno with h | h | h <;> simp_all
      have G := Lib.hid gs
      have G' := Lib.hid gt
      clear gs gt hno
      go_enter Try.func10, Try.ntmps10
      go_wp2_with (go_at_call 13; (first | (with_reducible refine (sum_good_yes s _ h0 h1 G.out).mono ?_) | (with_reducible refine (sum_good_yes t _ h2 h3 G'.out).mono ?_)); rintro e w' ⟨rfl, rfl⟩)
      go_ret2
      exact ⟨rfl, rfl⟩
set_option maxHeartbeats 400000 in
theorem sum_turn_yes (s n i f t : Int) (w : World) (h0 : 0 ≤ s) (h1 : s ≤ 4294967295) (hn : 1 ≤ n) (hn1 : n ≤ 9223372036854775807) (hi : 0 ≤ i) (hin : i < n) (hf0 : 0 ≤ f) (hf1 : f ≤ 255) (ht0 : 0 ≤ t) (ht1 : t ≤ 255) (gs : goodB s = true) :
    Calls Try.prog 11 #[.int .u32 s, .int .i64 n, .int .i64 i, .int .u8 f, .int .u8 t] w fun e w' => e = .returned (.tuple #[.int .u32 (turnV s n i f t), .bool true]) ∧ w = w' := by
  obtain ⟨p1, p2⟩ := good_parts s gs
  obtain ⟨q1, q2⟩ := mul_bd ((n - i) % 65521) (t - f) 65520 255 255 (by omega) (by omega) (by omega) (by omega) (by omega) (by omega)
  go_enter Try.func11, Try.ntmps11
  go_wp2_with (first | (go_at_call 13; refine (sum_good_yes s _ h0 h1 gs).mono ?_; rintro e w' ⟨rfl, rfl⟩) | (go_at_call 19; refine (sum_parts _ _ (by omega) (by omega)).mono ?_; rintro e w' ⟨rfl, rfl⟩) | (go_at_call 20; refine (sum_made _ _ _ (by omega) (by omega) (by omega) (by omega)).mono ?_; rintro e w' ⟨rfl, rfl⟩))
  go_ret2
  exact ⟨rfl, rfl⟩
set_option maxHeartbeats 400000 in
theorem sum_turn_no (s n i f t : Int) (w : World) (h0 : 0 ≤ s) (h1 : s ≤ 4294967295) (hno : goodB s = false ∨ n < 1 ∨ i < 0 ∨ n ≤ i) :
    Calls Try.prog 11 #[.int .u32 s, .int .i64 n, .int .i64 i, .int .u8 f, .int .u8 t] w fun e w' => e = .returned (.tuple #[.int .u32 0, .bool false]) ∧ w = w' := by
  cases gs : goodB s
  · have G := Lib.hid gs
    clear gs hno
    go_enter Try.func11, Try.ntmps11
    go_wp2_with (go_at_call 13; refine (sum_good_no s _ h0 h1 G.out).mono ?_; rintro e w' ⟨rfl, rfl⟩)
    go_ret2
    exact ⟨rfl, rfl⟩
  · have hno' : n < 1 ∨ 1 ≤ n ∧ i < 0 ∨ 1 ≤ n ∧ 0 ≤ i ∧ n ≤ i := by simp [gs] at hno; omega
    have G := Lib.hid gs
    clear gs hno
    rcases hno' with h | ⟨h, h'⟩ | ⟨h, h', h''⟩
    all_goals
      go_enter Try.func11, Try.ntmps11
      go_wp2_with (go_at_call 13; refine (sum_good_yes s _ h0 h1 G.out).mono ?_; rintro e w' ⟨rfl, rfl⟩)
      go_ret2
      exact ⟨rfl, rfl⟩
end Go.Proofs.Ytciolohapanpfaa
