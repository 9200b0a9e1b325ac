/- A stamp's parts: Off, Epoch, Pack, Next, Up; Fold, Wide. -/
import Derived.Test.YtdiajdbjlhfkpaaDoorMem
set_option linter.unusedVariables false
set_option linter.unusedSimpArgs false
namespace Go.Proofs.YtdiajdbjlhfkpaaDoor
open Go.RowKit
def epI (s : Int) : Int := s / 17592186044416
def ofI (s : Int) : Int := s % 17592186044416
theorem ofInt_nat64 (a : Nat) (ha : a < 18446744073709551616) : (BitVec.ofInt 64 (a : Int)).toNat = a := by
  rw [BitVec.ofInt_natCast, BitVec.toNat_ofNat]; exact Nat.mod_eq_of_lt (by omega)
theorem and_mask (x : Int) (h0 : 0 ≤ x) (h1 : x ≤ 18446744073709551615) : bits .and .u64 x 17592186044415 = x % 17592186044416 := by
  obtain ⟨a, rfl⟩ := Int.eq_ofNat_of_zero_le h0
  have e : (BitVec.ofInt 64 (17592186044415 : Int)).toNat = 2 ^ 44 - 1 := by decide
  show IntKind.u64.wrap ((BitVec.ofInt 64 (a : Int) &&& BitVec.ofInt 64 (17592186044415 : Int)).toNat : Int) = _
  rw [BitVec.toNat_and, ofInt_nat64 a (by omega), e, Nat.and_two_pow_sub_one_eq_mod, IntKind.wrap_u64]; omega
theorem ofInt_wrap (x : Int) : BitVec.ofInt 64 (IntKind.i64.wrap x) = BitVec.ofInt 64 x := by
  apply BitVec.eq_of_toNat_eq
  rw [BitVec.toNat_ofInt, BitVec.toNat_ofInt, IntKind.wrap_i64]
  congr 1
  show _ % 18446744073709551616 = _ % 18446744073709551616
  omega
theorem or_wrap (x o : Int) : bits .or .i64 (IntKind.i64.wrap x) o = bits .or .i64 x o := by
  show IntKind.i64.wrap ((BitVec.ofInt 64 (IntKind.i64.wrap x) ||| BitVec.ofInt 64 o).toNat : Int) = IntKind.i64.wrap ((BitVec.ofInt 64 x ||| BitVec.ofInt 64 o).toNat : Int)
  rw [ofInt_wrap]
theorem or_low (e o : Int) (e0 : 0 ≤ e) (e1 : e < 1048576) (o0 : 0 ≤ o) (o1 : o ≤ 17592186044415) : IntKind.u64.wrap (bits .or .i64 (wrap64 (e * 17592186044416)) o) = e * 17592186044416 + o := by
  rw [show wrap64 (e * 17592186044416) = IntKind.i64.wrap (e * 17592186044416) by unfold wrap64; rw [IntKind.wrap_i64]]
  obtain ⟨a, rfl⟩ := Int.eq_ofNat_of_zero_le e0
  obtain ⟨b, rfl⟩ := Int.eq_ofNat_of_zero_le o0
  have h : 17592186044416 * a + b = 17592186044416 * a ||| b := Nat.two_pow_add_eq_or_of_lt (i := 44) (by omega) a
  have hm : ((a : Int) * 17592186044416) = ((17592186044416 * a : Nat) : Int) := by omega
  rw [or_wrap]
  show IntKind.u64.wrap (IntKind.i64.wrap ((BitVec.ofInt 64 ((a : Int) * 17592186044416) ||| BitVec.ofInt 64 (b : Int)).toNat : Int)) = _
  rw [hm, BitVec.toNat_or, ofInt_nat64 _ (by omega), ofInt_nat64 b (by omega), ← h, IntKind.wrap_i64, IntKind.wrap_u64]; omega
theorem stamp_off (s : Int) (w : World) (h0 : 0 ≤ s) (h1 : s ≤ 18446744073709551615) : Calls Tryd.prog 13 #[.int .u64 s] w fun e w' => e = .returned (.int .i64 (ofI s)) ∧ w = w' := by
  have hm := and_mask s h0 h1
  go_enter Tryd.func13, Tryd.ntmps13
  go_wp2
  go_ret
  refine ⟨ret_int ?_, rfl⟩
  unfold ofI
  omega
theorem stamp_epoch (s : Int) (w : World) (h0 : 0 ≤ s) (h1 : s ≤ 18446744073709551615) : Calls Tryd.prog 12 #[.int .u64 s] w fun e w' => e = .returned (.int .i64 (epI s)) ∧ w = w' := by
  go_enter Tryd.func12, Tryd.ntmps12
  go_wp2
  go_ret
  refine ⟨ret_int ?_, rfl⟩
  unfold epI
  omega
theorem stamp_pack_yes (e o : Int) (w : World) (e0 : 0 ≤ e) (e1 : e ≤ 1048575) (o0 : 0 ≤ o) (o1 : o ≤ 17592186044415) :
    Calls Tryd.prog 15 #[.int .i64 e, .int .i64 o] w fun E w' => E = .returned (.tuple #[.int .u64 (e * 17592186044416 + o), .bool true]) ∧ w = w' := by
  have hm := or_low e o e0 (by omega) o0 o1
  go_enter Tryd.func15, Tryd.ntmps15
  go_wp2
  exact bodyPost_ret (v := .tuple #[.int .u64 (e * 17592186044416 + o), .bool true]) (by simp [results, Tryd.results15, go_sem, hm]) rfl ⟨rfl, rfl⟩
theorem stamp_pack_no (e o : Int) (w : World) (h : e < 0 ∨ 1048575 < e ∨ o < 0 ∨ 17592186044415 < o) :
    Calls Tryd.prog 15 #[.int .i64 e, .int .i64 o] w fun E w' => E = .returned (.tuple #[.int .u64 0, .bool false]) ∧ w = w' := by
  have h' : e < 0 ∨ (0 ≤ e ∧ 1048575 < e) ∨ (0 ≤ e ∧ e ≤ 1048575 ∧ o < 0) ∨ (0 ≤ e ∧ e ≤ 1048575 ∧ 0 ≤ o ∧ 17592186044415 < o) := by omega
  rcases h' with h | ⟨h1, h2⟩ | ⟨h1, h2, h3⟩ | ⟨h1, h2, h3, h4⟩
  all_goals
    clear h
    go_enter Tryd.func15, Tryd.ntmps15
    go_wp2
    all_goals exact bodyPost_ret (v := .tuple #[.int .u64 0, .bool false]) (by simp [results, Tryd.results15, go_sem]) rfl ⟨rfl, rfl⟩
/-- Next's answer; Up's -/
theorem stamp_next_yes (s : Int) (w : World) (h0 : 0 ≤ s) (h1 : s ≤ 18446744073709551615) (h : ofI s + 1 ≤ 17592186044415) :
    Calls Tryd.prog 14 #[.int .u64 s] w fun E w' => E = .returned (.tuple #[.int .u64 (s + 1), .bool true]) ∧ w = w' := by
  have hE := Lib.hid (stamp_epoch s w h0 h1)
  have hO := Lib.hid (stamp_off s w h0 h1)
  have e0 : 0 ≤ epI s ∧ epI s ≤ 1048575 := by unfold epI; omega
  have o0 : 0 ≤ ofI s := by unfold ofI; omega
  have hs : epI s * 17592186044416 + (ofI s + 1) = s + 1 := by unfold epI ofI; omega
  have hP := Lib.hid (stamp_pack_yes (epI s) (ofI s + 1) w e0.1 e0.2 (by omega) h)
  rw [hs] at hP
  have hw : IntKind.i64.wrap (ofI s + 1) = ofI s + 1 := by rw [IntKind.wrap_i64]; omega
  clear hs
  generalize epI s = x at *
  generalize ofI s = y at *
  go_enter Tryd.func14, Tryd.ntmps14
  go_wp2_with fail
  refine hE.out.mono ?_
  rintro e w' ⟨rfl, rfl⟩
  go_wp2_with fail
  refine hO.out.mono ?_
  rintro e w' ⟨rfl, rfl⟩
  go_wp2_with fail
  refine hP.out.mono ?_
  rintro e w' ⟨rfl, rfl⟩
  go_wp2
  exact bodyPost_ret (v := .tuple #[.int .u64 (s + 1), .bool true]) (by simp [results, Tryd.results14, go_sem]) rfl ⟨rfl, rfl⟩
theorem stamp_next_no (s : Int) (w : World) (h0 : 0 ≤ s) (h1 : s ≤ 18446744073709551615) (h : ¬ ofI s + 1 ≤ 17592186044415) :
    Calls Tryd.prog 14 #[.int .u64 s] w fun E w' => E = .returned (.tuple #[.int .u64 0, .bool false]) ∧ w = w' := by
  have hE := Lib.hid (stamp_epoch s w h0 h1)
  have hO := Lib.hid (stamp_off s w h0 h1)
  have o1 : ofI s ≤ 17592186044415 := by unfold ofI; omega
  have hP := Lib.hid (stamp_pack_no (epI s) (ofI s + 1) w (by omega))
  have hw : IntKind.i64.wrap (ofI s + 1) = ofI s + 1 := by rw [IntKind.wrap_i64]; omega
  generalize epI s = x at *
  generalize ofI s = y at *
  go_enter Tryd.func14, Tryd.ntmps14
  go_wp2_with fail
  refine hE.out.mono ?_
  rintro e w' ⟨rfl, rfl⟩
  go_wp2_with fail
  refine hO.out.mono ?_
  rintro e w' ⟨rfl, rfl⟩
  go_wp2_with fail
  refine hP.out.mono ?_
  rintro e w' ⟨rfl, rfl⟩
  go_wp2
  exact bodyPost_ret (v := .tuple #[.int .u64 0, .bool false]) (by simp [results, Tryd.results14, go_sem]) rfl ⟨rfl, rfl⟩
theorem stamp_up_yes (s : Int) (w : World) (h0 : 0 ≤ s) (h1 : s ≤ 18446744073709551615) (h : epI s + 1 ≤ 1048575) :
    Calls Tryd.prog 16 #[.int .u64 s] w fun E w' => E = .returned (.tuple #[.int .u64 (s + 17592186044416), .bool true]) ∧ w = w' := by
  have hE := Lib.hid (stamp_epoch s w h0 h1)
  have hO := Lib.hid (stamp_off s w h0 h1)
  have e0 : 0 ≤ epI s := by unfold epI; omega
  have o0 : 0 ≤ ofI s ∧ ofI s ≤ 17592186044415 := by unfold ofI; omega
  have hs : (epI s + 1) * 17592186044416 + ofI s = s + 17592186044416 := by unfold epI ofI; omega
  have hP := Lib.hid (stamp_pack_yes (epI s + 1) (ofI s) w (by omega) h o0.1 o0.2)
  rw [hs] at hP
  have hw : IntKind.i64.wrap (epI s + 1) = epI s + 1 := by rw [IntKind.wrap_i64]; omega
  clear hs
  generalize epI s = x at *
  generalize ofI s = y at *
  go_enter Tryd.func16, Tryd.ntmps16
  go_wp2_with fail
  refine hE.out.mono ?_
  rintro e w' ⟨rfl, rfl⟩
  go_wp2_with fail
  refine hO.out.mono ?_
  rintro e w' ⟨rfl, rfl⟩
  go_wp2_with fail
  refine hP.out.mono ?_
  rintro e w' ⟨rfl, rfl⟩
  go_wp2
  exact bodyPost_ret (v := .tuple #[.int .u64 (s + 17592186044416), .bool true]) (by simp [results, Tryd.results16, go_sem]) rfl ⟨rfl, rfl⟩
end Go.Proofs.YtdiajdbjlhfkpaaDoor
