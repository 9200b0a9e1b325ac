/- The laws' own awake (layer 1): a stamp's parts, its text. -/
import Derived.Test.YtdiajdbjlhfkpaaDoorStWide
set_option linter.unusedVariables false
set_option linter.unusedSimpArgs false
namespace Go.Proofs.YtdiajdbjlhfkpaaDoor
open Go.RowKit
set_option maxRecDepth 100000 in
set_option maxHeartbeats 1000000 in
theorem small_3 (w : World) : Calls Tryd.prog 48 #[.int .i64 3] w fun e w' => e = .returned (.string ⟨#[51]⟩) ∧ w = w' := by
  go_enter Tryd.func48, Tryd.ntmps48
  go_wp2
  go_ret
  exact ⟨by kernel_rfl, rfl⟩
set_option maxRecDepth 100000 in
set_option maxHeartbeats 1000000 in
theorem small_17 (w : World) : Calls Tryd.prog 48 #[.int .i64 17] w fun e w' => e = .returned (.string ⟨#[49, 55]⟩) ∧ w = w' := by
  go_enter Tryd.func48, Tryd.ntmps48
  go_wp2
  go_ret
  exact ⟨by kernel_rfl, rfl⟩
set_option maxRecDepth 100000 in
set_option maxHeartbeats 1000000 in
theorem fmt_3 (w : World) : Calls Tryd.prog 34 #[.int .i64 3, .int .i64 10] w fun e w' => e = .returned (.string ⟨#[51]⟩) ∧ w = w' := by
  have H : Calls Tryd.prog 41 #[.int .i64 3, .int .i64 10] w fun e w' => e = .returned (.string ⟨#[51]⟩) ∧ w = w' := by
    go_enter Tryd.func41, Tryd.ntmps41
    go_wp2_with fail
    refine (small_3 _).mono ?_
    rintro e w' ⟨rfl, rfl⟩
    go_wp2
    go_ret
    exact ⟨rfl, rfl⟩
  go_enter Tryd.func34, Tryd.ntmps34
  go_wp2_with fail
  refine H.mono ?_
  rintro e w' ⟨rfl, rfl⟩
  go_wp2
  go_ret
  exact ⟨rfl, rfl⟩
set_option maxRecDepth 100000 in
set_option maxHeartbeats 1000000 in
theorem fmt_17 (w : World) : Calls Tryd.prog 34 #[.int .i64 17, .int .i64 10] w fun e w' => e = .returned (.string ⟨#[49, 55]⟩) ∧ w = w' := by
  have H : Calls Tryd.prog 41 #[.int .i64 17, .int .i64 10] w fun e w' => e = .returned (.string ⟨#[49, 55]⟩) ∧ w = w' := by
    go_enter Tryd.func41, Tryd.ntmps41
    go_wp2_with fail
    refine (small_17 _).mono ?_
    rintro e w' ⟨rfl, rfl⟩
    go_wp2
    go_ret
    exact ⟨rfl, rfl⟩
  go_enter Tryd.func34, Tryd.ntmps34
  go_wp2_with fail
  refine H.mono ?_
  rintro e w' ⟨rfl, rfl⟩
  go_wp2
  go_ret
  exact ⟨rfl, rfl⟩
set_option maxRecDepth 100000 in
set_option maxHeartbeats 1000000 in
theorem st_awake (w : World) : Calls Tryd.prog 10 #[] w fun e w' => e = .returned (.bool true) ∧ w = w' := by
  have HS : Hid (Calls Tryd.prog 20 #[.int .u64 (3 * 17592186044416 + 17)] w fun e w' => e = .returned (.string ⟨#[51, 46, 49, 55]⟩) ∧ w = w') := by
    unfold Hid
    have h1 := stamp_epoch (3 * 17592186044416 + 17) w (by omega) (by omega)
    have h2 := stamp_off (3 * 17592186044416 + 17) w (by omega) (by omega)
    rw [show epI (3 * 17592186044416 + 17) = 3 by decide +kernel] at h1
    rw [show ofI (3 * 17592186044416 + 17) = 17 by decide +kernel] at h2
    go_enter Tryd.func20, Tryd.ntmps20
    go_wp2_with fail
    refine h1.mono ?_
    rintro e w' ⟨rfl, rfl⟩
    go_wp2_with fail
    refine (fmt_3 _).mono ?_
    rintro e w' ⟨rfl, rfl⟩
    go_wp2_with fail
    refine h2.mono ?_
    rintro e w' ⟨rfl, rfl⟩
    go_wp2_with fail
    refine (fmt_17 _).mono ?_
    rintro e w' ⟨rfl, rfl⟩
    go_wp2
    go_ret
    exact ⟨by kernel_rfl, rfl⟩
  have HE := Lib.hid (stamp_epoch (3 * 17592186044416 + 17) w (by omega) (by omega))
  have HO := Lib.hid (stamp_off (3 * 17592186044416 + 17) w (by omega) (by omega))
  rw [show epI (3 * 17592186044416 + 17) = 3 by decide +kernel] at HE
  rw [show ofI (3 * 17592186044416 + 17) = 17 by decide +kernel] at HO
  have HP := Lib.hid (stamp_pack_yes 3 17 w (by omega) (by omega) (by omega) (by omega))
  generalize hx : (3 * 17592186044416 + 17 : Int) = x at *
  have HF := Lib.hid (stamp_fold (-1) w (by omega) (by omega))
  have HW := Lib.hid (st_wide 255 8 w (by omega) (by omega) (by omega) (by omega))
  rw [show fold (-1) = 1 by decide +kernel] at HF
  rw [show wideV 255 8 = -1 by decide +kernel] at HW
  go_enter Tryd.func10, Tryd.ntmps10
  go_wp2_with fail
  refine HP.out.mono ?_
  rintro e w' ⟨rfl, rfl⟩
  go_wp2_with fail
  refine HS.out.mono ?_
  rintro e w' ⟨rfl, rfl⟩
  go_wp2_with fail
  refine HE.out.mono ?_
  rintro e w' ⟨rfl, rfl⟩
  go_wp2_with fail
  refine HO.out.mono ?_
  rintro e w' ⟨rfl, rfl⟩
  go_wp2_with fail
  refine HF.out.mono ?_
  rintro e w' ⟨rfl, rfl⟩
  go_wp2_with fail
  refine HW.out.mono ?_
  rintro e w' ⟨rfl, rfl⟩
  go_wp2
  go_ret
  exact ⟨rfl, rfl⟩
end Go.Proofs.YtdiajdbjlhfkpaaDoor
