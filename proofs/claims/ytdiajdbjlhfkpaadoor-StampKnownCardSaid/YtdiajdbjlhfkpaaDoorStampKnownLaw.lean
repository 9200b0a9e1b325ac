/- StampKnown: the law. -/
import Derived.Test.YtdiajdbjlhfkpaaDoorStKn
set_option linter.unusedVariables false
set_option linter.unusedSimpArgs false
namespace Go.Proofs.YtdiajdbjlhfkpaaDoor
open Go.RowKit
theorem kn_c0 (W : World) : Calls Tryd.prog 15 #[.int .i64 1048575, .int .i64 17592186044415] W fun E w' => E = .returned (.tuple #[.int .u64 18446744073709551615, .bool true]) ∧ W = w' := by
  refine (stamp_pack_yes 1048575 17592186044415 W (by decide) (by decide) (by decide) (by decide)).mono ?_
  rintro e w' ⟨rfl, rfl⟩
  exact ⟨congrArg Ending.returned (by kernel_rfl), rfl⟩
theorem kn_c1 (W : World) : Calls Tryd.prog 15 #[.int .i64 1048576, .int .i64 0] W fun E w' => E = .returned (.tuple #[.int .u64 0, .bool false]) ∧ W = w' := by
  refine (stamp_pack_no 1048576 0 W (by decide)).mono ?_
  rintro e w' ⟨rfl, rfl⟩
  exact ⟨congrArg Ending.returned (by kernel_rfl), rfl⟩
theorem kn_c2 (W : World) : Calls Tryd.prog 15 #[.int .i64 0, .int .i64 17592186044416] W fun E w' => E = .returned (.tuple #[.int .u64 0, .bool false]) ∧ W = w' := by
  refine (stamp_pack_no 0 17592186044416 W (by decide)).mono ?_
  rintro e w' ⟨rfl, rfl⟩
  exact ⟨congrArg Ending.returned (by kernel_rfl), rfl⟩
theorem kn_c3 (W : World) : Calls Tryd.prog 15 #[.int .i64 (-1), .int .i64 0] W fun E w' => E = .returned (.tuple #[.int .u64 0, .bool false]) ∧ W = w' := by
  refine (stamp_pack_no (-1) 0 W (by decide)).mono ?_
  rintro e w' ⟨rfl, rfl⟩
  exact ⟨congrArg Ending.returned (by kernel_rfl), rfl⟩
theorem kn_c4 (W : World) : Calls Tryd.prog 14 #[.int .u64 18446744073709551615] W fun E w' => E = .returned (.tuple #[.int .u64 0, .bool false]) ∧ W = w' := by
  refine (stamp_next_no 18446744073709551615 W (by decide) (by decide) (by decide)).mono ?_
  rintro e w' ⟨rfl, rfl⟩
  exact ⟨congrArg Ending.returned (by kernel_rfl), rfl⟩
theorem kn_c5 (W : World) : Calls Tryd.prog 16 #[.int .u64 18446744073709551615] W fun E w' => E = .returned (.tuple #[.int .u64 0, .bool false]) ∧ W = w' := by
  refine (stamp_up_no 18446744073709551615 W (by decide) (by decide) (by decide)).mono ?_
  rintro e w' ⟨rfl, rfl⟩
  exact ⟨congrArg Ending.returned (by kernel_rfl), rfl⟩
theorem kn_c6 (W : World) : Calls Tryd.prog 14 #[.int .u64 5] W fun E w' => E = .returned (.tuple #[.int .u64 6, .bool true]) ∧ W = w' := by
  refine (stamp_next_yes 5 W (by decide) (by decide) (by decide)).mono ?_
  rintro e w' ⟨rfl, rfl⟩
  exact ⟨congrArg Ending.returned (by kernel_rfl), rfl⟩
theorem kn_c7 (W : World) : Calls Tryd.prog 16 #[.int .u64 5] W fun E w' => E = .returned (.tuple #[.int .u64 17592186044421, .bool true]) ∧ W = w' := by
  refine (stamp_up_yes 5 W (by decide) (by decide) (by decide)).mono ?_
  rintro e w' ⟨rfl, rfl⟩
  exact ⟨congrArg Ending.returned (by kernel_rfl), rfl⟩
theorem kn_c8 (W : World) : Calls Tryd.prog 17 #[.int .u64 255, .int .i64 8] W fun E w' => E = .returned (.tuple #[.int .u64 255, .bool true]) ∧ W = w' := by
  refine (st_narrow 255 8 W (by decide) (by decide) (by decide) (by decide)).mono ?_
  rintro e w' ⟨rfl, rfl⟩
  exact ⟨congrArg Ending.returned (by kernel_rfl), rfl⟩
theorem kn_c9 (W : World) : Calls Tryd.prog 17 #[.int .u64 256, .int .i64 8] W fun E w' => E = .returned (.tuple #[.int .u64 0, .bool false]) ∧ W = w' := by
  refine (st_narrow 256 8 W (by decide) (by decide) (by decide) (by decide)).mono ?_
  rintro e w' ⟨rfl, rfl⟩
  exact ⟨congrArg Ending.returned (by kernel_rfl), rfl⟩
theorem kn_c10 (W : World) : Calls Tryd.prog 17 #[.int .u64 0, .int .i64 0] W fun E w' => E = .returned (.tuple #[.int .u64 0, .bool false]) ∧ W = w' := by
  refine (st_narrow_no 0 0 W (by decide)).mono ?_
  rintro e w' ⟨rfl, rfl⟩
  exact ⟨congrArg Ending.returned (by kernel_rfl), rfl⟩
theorem kn_c11 (W : World) : Calls Tryd.prog 17 #[.int .u64 18446744073709551615, .int .i64 64] W fun E w' => E = .returned (.tuple #[.int .u64 18446744073709551615, .bool true]) ∧ W = w' := by
  refine (st_narrow 18446744073709551615 64 W (by decide) (by decide) (by decide) (by decide)).mono ?_
  rintro e w' ⟨rfl, rfl⟩
  exact ⟨congrArg Ending.returned (by kernel_rfl), rfl⟩
theorem kn_c12 (W : World) : Calls Tryd.prog 18 #[.int .i64 (-9223372036854775808)] W fun E w' => E = .returned (.int .u64 18446744073709551615) ∧ W = w' := by
  refine (stamp_fold (-9223372036854775808) W (by decide) (by decide)).mono ?_
  rintro e w' ⟨rfl, rfl⟩
  exact ⟨congrArg Ending.returned (by kernel_rfl), rfl⟩
theorem kn_c13 (W : World) : Calls Tryd.prog 21 #[.int .u64 18446744073709551615] W fun E w' => E = .returned (.int .i64 (-9223372036854775808)) ∧ W = w' := by
  refine (stamp_unfold 18446744073709551615 W (by decide) (by decide)).mono ?_
  rintro e w' ⟨rfl, rfl⟩
  exact ⟨congrArg Ending.returned (by kernel_rfl), rfl⟩
theorem kn_c14 (W : World) : Calls Tryd.prog 11 #[.int .u64 128, .int .i64 8] W fun E w' => E = .returned (.int .i64 (-128)) ∧ W = w' := by
  refine (st_wide 128 8 W (by decide) (by decide) (by decide) (by decide)).mono ?_
  rintro e w' ⟨rfl, rfl⟩
  exact ⟨congrArg Ending.returned (by kernel_rfl), rfl⟩
theorem kn_c15 (W : World) : Calls Tryd.prog 11 #[.int .u64 127, .int .i64 8] W fun E w' => E = .returned (.int .i64 127) ∧ W = w' := by
  refine (st_wide 127 8 W (by decide) (by decide) (by decide) (by decide)).mono ?_
  rintro e w' ⟨rfl, rfl⟩
  exact ⟨congrArg Ending.returned (by kernel_rfl), rfl⟩
theorem kn_c16 (W : World) : Calls Tryd.prog 11 #[.int .u64 18446744073709551615, .int .i64 64] W fun E w' => E = .returned (.int .i64 (-1)) ∧ W = w' := by
  refine (st_wide 18446744073709551615 64 W (by decide) (by decide) (by decide) (by decide)).mono ?_
  rintro e w' ⟨rfl, rfl⟩
  exact ⟨congrArg Ending.returned (by kernel_rfl), rfl⟩
theorem kn_c17 (W : World) : Calls Tryd.prog 11 #[.int .u64 5, .int .i64 0] W fun E w' => E = .returned (.int .i64 0) ∧ W = w' := by
  refine (st_wide_no 5 0 W (by decide)).mono ?_
  rintro e w' ⟨rfl, rfl⟩
  exact ⟨congrArg Ending.returned (by kernel_rfl), rfl⟩
theorem kn_c18 (W : World) : Calls Tryd.prog 11 #[.int .u64 5, .int .i64 65] W fun E w' => E = .returned (.int .i64 0) ∧ W = w' := by
  refine (st_wide_no 5 65 W (by decide)).mono ?_
  rintro e w' ⟨rfl, rfl⟩
  exact ⟨congrArg Ending.returned (by kernel_rfl), rfl⟩
theorem kn_c19 (W : World) : Calls Tryd.prog 11 #[.int .u64 1, .int .i64 1] W fun E w' => E = .returned (.int .i64 (-1)) ∧ W = w' := by
  refine (st_wide 1 1 W (by decide) (by decide) (by decide) (by decide)).mono ?_
  rintro e w' ⟨rfl, rfl⟩
  exact ⟨congrArg Ending.returned (by kernel_rfl), rfl⟩
set_option maxRecDepth 100000 in
set_option maxHeartbeats 16000000 in
theorem stampKnown_law (w : World) (hL : laidMetH Tryd.prog Rows.stampKnownRow.laid w) : Calls Tryd.prog 8 #[] w fun e w' => e = .returned (.bool true) ∧ Below w.heap.size w w' := by
  have HV := Lib.hid (stv_of hL)
  have HRows := Lib.hid (bad_row w)
  have HKB := Lib.hid (show Kept w (w.alloc badO) from by (unfold Kept; repeat (first | exact Below.refl _ _ | assumption | (refine Below.alloc ?_ (by simp) _) | (refine Below.setCell ?_ (by simp) _) | (refine Below.drew ?_) | (refine below_drewN ?_ _))))
  clear hL
  go_enter Tryd.func8, Tryd.ntmps8
  go_wp2_with fail
  refine (st_awake _).mono ?_
  rintro E1 V1 ⟨rfl, rfl⟩
  go_wp2_with fail
  go_loopw [2] (fun v wr => ∃ (i : Nat), v = .int .i64 (i : Nat) ∧ i ≤ 12 ∧ Hid (Kept (w.alloc badO) wr)) (fun v _ => 12 - (intOf v).toNat)
  case atStart => exact ⟨0, rfl, by omega, Kept.refl (w.alloc badO)⟩
  case round =>
    obtain ⟨i, rfl, hi, HKw⟩ := hrel
    by_cases hlt : i < 12
    · have hlt' : (i : Int) < 12 := by omega
      obtain ⟨t, c0, hsz, hp⟩ := HRows.out i hlt
      replace c0 := HKw.out.cel c0
      have HP := Lib.hid (st_parse_no t hsz hp (HV.out.kept (HKB.out.trans HKw.out)))
      clear hsz hp
      go_wp2_with fail
      refine HP.out.mono ?_
      rintro E2 V2 ⟨rfl, hK2⟩
      have HK2 := Lib.hid (HKw.out.trans hK2)
      clear hK2 HP
      go_wp2_with fail
      go_roundw
      case rel => exact ⟨i + 1, by go_num, by omega, HK2.out⟩
      case measure => simp [intOf]; omega
    · have hge : (12 : Int) ≤ i := by omega
      have HKW := Lib.hid (HKB.out.trans HKw.out)
      clear HRows HKB HKw HV
      go_wp2_with fail
      refine (kn_c0 _).mono ?_
      rintro e w' ⟨rfl, rfl⟩
      go_wp2_with fail
      refine (kn_c1 _).mono ?_
      rintro e w' ⟨rfl, rfl⟩
      go_wp2_with fail
      refine (kn_c2 _).mono ?_
      rintro e w' ⟨rfl, rfl⟩
      go_wp2_with fail
      refine (kn_c3 _).mono ?_
      rintro e w' ⟨rfl, rfl⟩
      go_wp2_with fail
      refine (kn_c4 _).mono ?_
      rintro e w' ⟨rfl, rfl⟩
      go_wp2_with fail
      refine (kn_c5 _).mono ?_
      rintro e w' ⟨rfl, rfl⟩
      go_wp2_with fail
      refine (kn_c6 _).mono ?_
      rintro e w' ⟨rfl, rfl⟩
      go_wp2_with fail
      refine (kn_c7 _).mono ?_
      rintro e w' ⟨rfl, rfl⟩
      go_wp2_with fail
      refine (kn_c8 _).mono ?_
      rintro e w' ⟨rfl, rfl⟩
      go_wp2_with fail
      refine (kn_c9 _).mono ?_
      rintro e w' ⟨rfl, rfl⟩
      go_wp2_with fail
      refine (kn_c10 _).mono ?_
      rintro e w' ⟨rfl, rfl⟩
      go_wp2_with fail
      refine (kn_c11 _).mono ?_
      rintro e w' ⟨rfl, rfl⟩
      go_wp2_with fail
      refine (kn_c12 _).mono ?_
      rintro e w' ⟨rfl, rfl⟩
      go_wp2_with fail
      refine (kn_c13 _).mono ?_
      rintro e w' ⟨rfl, rfl⟩
      go_wp2_with fail
      refine (kn_c14 _).mono ?_
      rintro e w' ⟨rfl, rfl⟩
      go_wp2_with fail
      refine (kn_c15 _).mono ?_
      rintro e w' ⟨rfl, rfl⟩
      go_wp2_with fail
      refine (kn_c16 _).mono ?_
      rintro e w' ⟨rfl, rfl⟩
      go_wp2_with fail
      refine (kn_c17 _).mono ?_
      rintro e w' ⟨rfl, rfl⟩
      go_wp2_with fail
      refine (kn_c18 _).mono ?_
      rintro e w' ⟨rfl, rfl⟩
      go_wp2_with fail
      refine (kn_c19 _).mono ?_
      rintro e w' ⟨rfl, rfl⟩
      go_wp2_with fail
      go_ret
      exact ⟨rfl, HKW.out⟩
end Go.Proofs.YtdiajdbjlhfkpaaDoor
