/- Words seen bit by bit: Fold and Unfold. -/
import Derived.Test.YtdiajdbjlhfkpaaDoorMem
import Derived.Test.YtdiajdbjlhfkpaaDoorEncMath2
set_option linter.unusedVariables false
set_option linter.unusedSimpArgs false
namespace Go.Proofs.YtdiajdbjlhfkpaaDoor
open Go.RowKit
theorem ofInt_u64 (a : Nat) (ha : a < 18446744073709551616) : (BitVec.ofInt 64 (a : Int)).toNat = a := by
  rw [BitVec.ofInt_natCast, BitVec.toNat_ofNat]; exact Nat.mod_eq_of_lt (by omega)
theorem xor_u64_zero (x : Int) (h0 : 0 ≤ x) (h1 : x ≤ 18446744073709551615) : bits .xor .u64 x 0 = x := by
  obtain ⟨a, rfl⟩ := Int.eq_ofNat_of_zero_le h0
  have e : BitVec.ofInt 64 (0 : Int) = 0#64 := by decide
  show IntKind.u64.wrap ((BitVec.ofInt 64 (a : Int) ^^^ BitVec.ofInt 64 (0 : Int)).toNat : Int) = _
  rw [e, BitVec.xor_zero, ofInt_u64 a (by omega), IntKind.wrap_u64]; omega
theorem xor_u64_ones (x : Int) (h0 : 0 ≤ x) (h1 : x ≤ 18446744073709551615) : bits .xor .u64 x 18446744073709551615 = 18446744073709551615 - x := by
  obtain ⟨a, rfl⟩ := Int.eq_ofNat_of_zero_le h0
  have e : BitVec.ofInt 64 (18446744073709551615 : Int) = BitVec.allOnes 64 := by decide
  show IntKind.u64.wrap ((BitVec.ofInt 64 (a : Int) ^^^ BitVec.ofInt 64 (18446744073709551615 : Int)).toNat : Int) = _
  rw [e, BitVec.xor_allOnes, BitVec.toNat_not, ofInt_u64 a (by omega), IntKind.wrap_u64]; omega
theorem xor_i64_zero (x : Int) (h0 : 0 ≤ x) (h1 : x ≤ 9223372036854775807) : bits .xor .i64 x 0 = x := by
  obtain ⟨a, rfl⟩ := Int.eq_ofNat_of_zero_le h0
  have e : BitVec.ofInt 64 (0 : Int) = 0#64 := by decide
  show IntKind.i64.wrap ((BitVec.ofInt 64 (a : Int) ^^^ BitVec.ofInt 64 (0 : Int)).toNat : Int) = _
  rw [e, BitVec.xor_zero, ofInt_u64 a (by omega), IntKind.wrap_i64]; omega
theorem xor_i64_ones (x : Int) (h0 : 0 ≤ x) (h1 : x ≤ 9223372036854775807) : bits .xor .i64 x (-1) = -1 - x := by
  obtain ⟨a, rfl⟩ := Int.eq_ofNat_of_zero_le h0
  have e : BitVec.ofInt 64 (-1 : Int) = BitVec.allOnes 64 := by decide
  show IntKind.i64.wrap ((BitVec.ofInt 64 (a : Int) ^^^ BitVec.ofInt 64 (-1 : Int)).toNat : Int) = _
  rw [e, BitVec.xor_allOnes, BitVec.toNat_not, ofInt_u64 a (by omega), IntKind.wrap_i64]; omega
set_option maxHeartbeats 400000 in
theorem stamp_fold (v : Int) (w : World) (h0 : -9223372036854775808 ≤ v) (h1 : v ≤ 9223372036854775807) :
    Calls Tryd.prog 18 #[.int .i64 v] w fun e w' => e = .returned (.int .u64 (fold v)) ∧ w = w' := by
  by_cases hv : 0 ≤ v
  · go_enter Tryd.func18, Tryd.ntmps18
    go_wp2
    go_ret
    refine ⟨ret_int ?_, rfl⟩
    rw [show v / 9223372036854775808 = 0 by omega, xor_u64_zero _ (by omega) (by omega)]
    unfold fold; rw [if_pos hv]; omega
  · have hv' : v < 0 := by omega
    go_enter Tryd.func18, Tryd.ntmps18
    go_wp2
    go_ret
    refine ⟨ret_int ?_, rfl⟩
    rw [show IntKind.u64.wrap (v / 9223372036854775808) = 18446744073709551615 by rw [IntKind.wrap_u64]; omega, show IntKind.u64.wrap (IntKind.u64.wrap v * 2) = 2 * v + 18446744073709551616 by rw [IntKind.wrap_u64, IntKind.wrap_u64]; omega, xor_u64_ones _ (by omega) (by omega)]
    unfold fold; rw [if_neg (by omega)]; omega
set_option maxHeartbeats 400000 in
theorem stamp_unfold (u : Int) (w : World) (h0 : 0 ≤ u) (h1 : u ≤ 18446744073709551615) :
    Calls Tryd.prog 21 #[.int .u64 u] w fun e w' => e = .returned (.int .i64 (unfold u)) ∧ w = w' := by
  have ha := and_one_u64 u h0 h1
  go_enter Tryd.func21, Tryd.ntmps21
  go_wp2
  go_ret
  refine ⟨ret_int ?_, rfl⟩
  unfold unfold
  split
  · rename_i h; rw [h]; exact xor_i64_zero _ (by omega) (by omega)
  · rename_i h; rw [show -(u % 2) = -1 by omega]; exact xor_i64_ones _ (by omega) (by omega)
end Go.Proofs.YtdiajdbjlhfkpaaDoor
