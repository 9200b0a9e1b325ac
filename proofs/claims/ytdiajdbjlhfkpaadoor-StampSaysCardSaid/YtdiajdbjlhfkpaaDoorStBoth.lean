/- Stamp against the document: each pair of functions comes to the same. -/
import Derived.Test.YtdiajdbjlhfkpaaDoorStNumF
import Derived.Test.YtdiajdbjlhfkpaaDoorStText
import Derived.Test.YtdiajdbjlhfkpaaDoorStRef2
import Derived.Test.YtdiajdbjlhfkpaaDoorStampBackLaw
set_option linter.unusedVariables false
set_option linter.unusedSimpArgs false
namespace Go.Proofs.YtdiajdbjlhfkpaaDoor
open Go.RowKit
theorem both_pack (e o : Int) : ∃ q f, (∀ W, Calls Tryd.prog 15 #[.int .i64 e, .int .i64 o] W fun E w' => E = .returned (.tuple #[.int .u64 q, .bool f]) ∧ W = w') ∧ (∀ W, Calls Tryd.prog 22 #[.int .i64 e, .int .i64 o] W fun E w' => E = .returned (.tuple #[.int .u64 q, .bool f]) ∧ W = w') := by
  by_cases h : e < 0 ∨ 1048575 < e ∨ o < 0 ∨ 17592186044415 < o
  · exact ⟨_, _, fun W => stamp_pack_no e o W h, fun W => rs_pack_no e o W h⟩
  · exact ⟨_, _, fun W => stamp_pack_yes e o W (by omega) (by omega) (by omega) (by omega), fun W => rs_pack_yes e o W (by omega) (by omega) (by omega) (by omega)⟩
theorem both_next (s : Int) (h0 : 0 ≤ s) (h1 : s ≤ 18446744073709551615) : ∃ q f, (∀ W, Calls Tryd.prog 14 #[.int .u64 s] W fun E w' => E = .returned (.tuple #[.int .u64 q, .bool f]) ∧ W = w') ∧ (∀ W, Calls Tryd.prog 22 #[.int .i64 (epI s), .int .i64 (ofI s + 1)] W fun E w' => E = .returned (.tuple #[.int .u64 q, .bool f]) ∧ W = w') := by
  have e0 : 0 ≤ epI s ∧ epI s ≤ 1048575 := by unfold epI; omega
  have o0 : 0 ≤ ofI s ∧ ofI s ≤ 17592186044415 := by unfold ofI; omega
  by_cases h : ofI s + 1 ≤ 17592186044415
  · refine ⟨_, _, fun W => stamp_next_yes s W h0 h1 h, fun W => ?_⟩
    have := rs_pack_yes (epI s) (ofI s + 1) W (by omega) (by omega) (by omega) (by omega)
    rw [show epI s * 17592186044416 + (ofI s + 1) = s + 1 by unfold epI ofI; omega] at this
    exact this
  · exact ⟨_, _, fun W => stamp_next_no s W h0 h1 h, fun W => rs_pack_no _ _ W (by omega)⟩
theorem both_up (s : Int) (h0 : 0 ≤ s) (h1 : s ≤ 18446744073709551615) : ∃ q f, (∀ W, Calls Tryd.prog 16 #[.int .u64 s] W fun E w' => E = .returned (.tuple #[.int .u64 q, .bool f]) ∧ W = w') ∧ (∀ W, Calls Tryd.prog 22 #[.int .i64 (epI s + 1), .int .i64 (ofI s)] W fun E w' => E = .returned (.tuple #[.int .u64 q, .bool f]) ∧ W = w') := by
  have e0 : 0 ≤ epI s ∧ epI s ≤ 1048575 := by unfold epI; omega
  have o0 : 0 ≤ ofI s ∧ ofI s ≤ 17592186044415 := by unfold ofI; omega
  by_cases h : epI s + 1 ≤ 1048575
  · refine ⟨_, _, fun W => stamp_up_yes s W h0 h1 h, fun W => ?_⟩
    have := rs_pack_yes (epI s + 1) (ofI s) W (by omega) (by omega) (by omega) (by omega)
    rw [show (epI s + 1) * 17592186044416 + ofI s = s + 17592186044416 by unfold epI ofI; omega] at this
    exact this
  · exact ⟨_, _, fun W => stamp_up_no s W h0 h1 h, fun W => rs_pack_no _ _ W (by omega)⟩
theorem both_narrow (u b : Int) (h0 : 0 ≤ u) (h1 : u ≤ 18446744073709551615) : ∃ q f, (∀ W, Calls Tryd.prog 17 #[.int .u64 u, .int .i64 b] W fun E w' => E = .returned (.tuple #[.int .u64 q, .bool f]) ∧ W = w') ∧ (∀ W, Calls Tryd.prog 24 #[.int .u64 u, .int .i64 b] W fun E w' => E = .returned (.tuple #[.int .u64 q, .bool f]) ∧ W = w') := by
  by_cases h : b < 1 ∨ 64 < b
  · exact ⟨_, _, fun W => st_narrow_no u b W h, fun W => rs_narrow_no u b W h⟩
  · obtain ⟨k, rfl⟩ := Int.eq_ofNat_of_zero_le (show 0 ≤ b by omega)
    exact ⟨_, _, fun W => st_narrow u k W h0 h1 (by omega) (by omega), fun W => rs_narrow u k W h0 h1 (by omega) (by omega)⟩
theorem both_wide (u b : Int) (h0 : 0 ≤ u) (h1 : u ≤ 18446744073709551615) : ∃ q, (∀ W, Calls Tryd.prog 11 #[.int .u64 u, .int .i64 b] W fun E w' => E = .returned (.int .i64 q) ∧ W = w') ∧ (∀ W, Calls Tryd.prog 30 #[.int .u64 u, .int .i64 b] W fun E w' => E = .returned (.int .i64 q) ∧ W = w') := by
  by_cases h : b < 1 ∨ 64 < b
  · exact ⟨_, fun W => st_wide_no u b W h, fun W => rs_wide_no u b W h⟩
  · obtain ⟨k, rfl⟩ := Int.eq_ofNat_of_zero_le (show 0 ≤ b by omega)
    exact ⟨_, fun W => st_wide u k W h0 h1 (by omega) (by omega), fun W => rs_wide u k W h0 h1 (by omega) (by omega)⟩
theorem both_parse (t : ByteArray) (ht : t.size ≤ 281474976710656) : ∃ q f, (∀ W, StV W → Calls Tryd.prog 19 #[.string t] W fun E w' => E = .returned (.tuple #[.int .u64 q, .bool f]) ∧ Kept W w') ∧ (∀ W, Calls Tryd.prog 23 #[.string t] W fun E w' => E = .returned (.tuple #[.int .u64 q, .bool f]) ∧ W = w') := by
  have hR := fun W => rs_parse t ht W
  cases h : prsF t.data.toList with
  | none =>
    rw [h] at hR
    exact ⟨_, _, fun W hW => st_parse_no t ht h hW, hR⟩
  | some p =>
    obtain ⟨a, b⟩ := p
    rw [h] at hR
    exact ⟨_, _, fun W hW => st_parse_yes t ht a b h hW, hR⟩
end Go.Proofs.YtdiajdbjlhfkpaaDoor
