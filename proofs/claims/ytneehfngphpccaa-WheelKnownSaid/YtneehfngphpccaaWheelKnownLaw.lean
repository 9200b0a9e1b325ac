/- The wheel: fixed examples. -/
import Derived.Test.YtneehfngphpccaaWhAwake2
set_option linter.unusedVariables false
set_option linter.unusedSimpArgs false
namespace Go.Proofs.Ytneehfngphpccaa
open Go.RowKit
set_option maxRecDepth 100000 in
set_option maxHeartbeats 16000000 in
theorem wheelKnown_law (X : World) : Calls Try.prog 4 #[] X fun e w' => e = .returned (.bool true) ∧ Kept X w' := by
  have HAw := Lib.hid (awake14 X)
  go_enter Try.func4, Try.ntmps4
  go_wp2_with fail
  refine HAw.out.mono ?_
  rintro E V0 ⟨rfl, K0⟩
  have HK0 := Lib.hid K0
  clear K0 HAw
  go_wp2_with fail
  refine (ws_new V0).mono ?_
  rintro E W0 ⟨p, q, rfl, hW⟩
  have HW0 := Lib.hid hW
  clear hW
  have HC := Lib.hid (ws_set_no HW0.out 1 0 0 (by omega))
  go_wp2_with fail
  refine HC.out.mono ?_
  rintro E W1 ⟨rfl, hW, hO⟩
  clear HC
  have HW1 := Lib.hid hW
  clear hW
  clear hO
  have HC := Lib.hid (ws_set_no HW1.out 1 0 1099511627777 (by omega))
  go_wp2_with fail
  refine HC.out.mono ?_
  rintro E W2 ⟨rfl, hW, hO⟩
  clear HC
  have HW2 := Lib.hid hW
  clear hW
  clear hO
  have HC := Lib.hid (ws_set HW2.out 2 1 70 (by omega) (by omega))
  go_wp2_with fail
  refine HC.out.mono ?_
  rintro E W3 ⟨rfl, hW, hO⟩
  clear HC
  rw [show insD (2, 1, 70) (dropD 2 1 ([] : List Du)) = ([(2, 1, 70)] : List Du) from by decide +kernel] at hW
  have HW3 := Lib.hid hW
  clear hW
  clear hO
  have HC := Lib.hid (ws_set HW3.out 1 9 70 (by omega) (by omega))
  go_wp2_with fail
  refine HC.out.mono ?_
  rintro E W4 ⟨rfl, hW, hO⟩
  clear HC
  rw [show insD (1, 9, 70) (dropD 1 9 ([(2, 1, 70)] : List Du)) = ([(1, 9, 70), (2, 1, 70)] : List Du) from by decide +kernel] at hW
  have HW4 := Lib.hid hW
  clear hW
  clear hO
  have HC := Lib.hid (ws_set HW4.out 2 0 70 (by omega) (by omega))
  go_wp2_with fail
  refine HC.out.mono ?_
  rintro E W5 ⟨rfl, hW, hO⟩
  clear HC
  rw [show insD (2, 0, 70) (dropD 2 0 ([(1, 9, 70), (2, 1, 70)] : List Du)) = ([(1, 9, 70), (2, 0, 70), (2, 1, 70)] : List Du) from by decide +kernel] at hW
  have HW5 := Lib.hid hW
  clear hW
  clear hO
  have HC := Lib.hid (ws_set HW5.out 3 0 100000 (by omega) (by omega))
  go_wp2_with fail
  refine HC.out.mono ?_
  rintro E W6 ⟨rfl, hW, hO⟩
  clear HC
  rw [show insD (3, 0, 100000) (dropD 3 0 ([(1, 9, 70), (2, 0, 70), (2, 1, 70)] : List Du)) = ([(1, 9, 70), (2, 0, 70), (2, 1, 70), (3, 0, 100000)] : List Du) from by decide +kernel] at hW
  have HW6 := Lib.hid hW
  clear hW
  clear hO
  have HC := Lib.hid (ws_set HW6.out 4 0 3 (by omega) (by omega))
  go_wp2_with fail
  refine HC.out.mono ?_
  rintro E W7 ⟨rfl, hW, hO⟩
  clear HC
  rw [show insD (4, 0, 3) (dropD 4 0 ([(1, 9, 70), (2, 0, 70), (2, 1, 70), (3, 0, 100000)] : List Du)) = ([(4, 0, 3), (1, 9, 70), (2, 0, 70), (2, 1, 70), (3, 0, 100000)] : List Du) from by decide +kernel] at hW
  have HW7 := Lib.hid hW
  clear hW
  clear hO
  have HC := Lib.hid (ws_set HW7.out 4 0 1099511627776 (by omega) (by omega))
  go_wp2_with fail
  refine HC.out.mono ?_
  rintro E W8 ⟨rfl, hW, hO⟩
  clear HC
  rw [show insD (4, 0, 1099511627776) (dropD 4 0 ([(4, 0, 3), (1, 9, 70), (2, 0, 70), (2, 1, 70), (3, 0, 100000)] : List Du)) = ([(1, 9, 70), (2, 0, 70), (2, 1, 70), (3, 0, 100000), (4, 0, 1099511627776)] : List Du) from by decide +kernel] at hW
  have HW8 := Lib.hid hW
  clear hW
  clear hO
  have HC := Lib.hid (ws_drop HW8.out 3 0)
  rw [show hasD 3 0 ([(1, 9, 70), (2, 0, 70), (2, 1, 70), (3, 0, 100000), (4, 0, 1099511627776)] : List Du) = true from by decide +kernel] at HC
  go_wp2_with fail
  refine HC.out.mono ?_
  rintro E W9 ⟨rfl, hW, hO⟩
  clear HC
  rw [show dropD 3 0 ([(1, 9, 70), (2, 0, 70), (2, 1, 70), (3, 0, 100000), (4, 0, 1099511627776)] : List Du) = ([(1, 9, 70), (2, 0, 70), (2, 1, 70), (4, 0, 1099511627776)] : List Du) from by decide +kernel] at hW
  have HW9 := Lib.hid hW
  clear hW
  clear hO
  have HC := Lib.hid (ws_drop HW9.out 3 0)
  rw [show hasD 3 0 ([(1, 9, 70), (2, 0, 70), (2, 1, 70), (4, 0, 1099511627776)] : List Du) = false from by decide +kernel] at HC
  go_wp2_with fail
  refine HC.out.mono ?_
  rintro E W10 ⟨rfl, hW, hO⟩
  clear HC
  rw [show dropD 3 0 ([(1, 9, 70), (2, 0, 70), (2, 1, 70), (4, 0, 1099511627776)] : List Du) = ([(1, 9, 70), (2, 0, 70), (2, 1, 70), (4, 0, 1099511627776)] : List Du) from by decide +kernel] at hW
  have HW10 := Lib.hid hW
  clear hW
  clear hO
  have HC := Lib.hid (ws_next HW10.out (by simp))
  rw [show nextD ([(1, 9, 70), (2, 0, 70), (2, 1, 70), (4, 0, 1099511627776)] : List Du) = (70, true) from by decide +kernel] at HC
  dsimp only at HC
  go_wp2_with fail
  refine HC.out.mono ?_
  rintro E W11 ⟨rfl, hW, hO⟩
  clear HC
  have HW11 := Lib.hid hW
  clear hW
  clear hO
  have HC := Lib.hid (ws_at HW11.out 4 0)
  rw [show hasD 4 0 ([(1, 9, 70), (2, 0, 70), (2, 1, 70), (4, 0, 1099511627776)] : List Du) = true from by decide +kernel, show atD 4 0 ([(1, 9, 70), (2, 0, 70), (2, 1, 70), (4, 0, 1099511627776)] : List Du) = 1099511627776 from by decide +kernel] at HC
  go_wp2_with fail
  refine HC.out.mono ?_
  rintro E W12 ⟨rfl, hW, hO⟩
  clear HC
  have HW12 := Lib.hid hW
  clear hW
  clear hO
  have HC := Lib.hid (ws_at HW12.out 3 0)
  rw [show hasD 3 0 ([(1, 9, 70), (2, 0, 70), (2, 1, 70), (4, 0, 1099511627776)] : List Du) = false from by decide +kernel, show atD 3 0 ([(1, 9, 70), (2, 0, 70), (2, 1, 70), (4, 0, 1099511627776)] : List Du) = 0 from by decide +kernel] at HC
  go_wp2_with fail
  refine HC.out.mono ?_
  rintro E W13 ⟨rfl, hW, hO⟩
  clear HC
  have HW13 := Lib.hid hW
  clear hW
  clear hO
  have HC := Lib.hid (ws_to HW13.out (by simp) 100 (by omega) (by omega))
  rw [show dueK 100 ([(1, 9, 70), (2, 0, 70), (2, 1, 70), (4, 0, 1099511627776)] : List Du) = 3 from by decide +kernel] at HC
  go_wp2_with fail
  refine HC.out.mono ?_
  rintro E W14 ⟨s13, c13, rfl, hS, hW, hO, hI⟩
  clear HC
  rw [show List.drop 3 ([(1, 9, 70), (2, 0, 70), (2, 1, 70), (4, 0, 1099511627776)] : List Du) = ([(4, 0, 1099511627776)] : List Du) from by decide +kernel] at hW
  have HW14 := Lib.hid hW
  clear hW
  clear hO
  rw [show List.take 3 ([(1, 9, 70), (2, 0, 70), (2, 1, 70), (4, 0, 1099511627776)] : List Du) = ([(1, 9, 70), (2, 0, 70), (2, 1, 70)] : List Du) from by decide +kernel] at hS
  have HS13 := Lib.hid hS
  have HI13 := Lib.hid hI
  clear hS hI
  have HC := Lib.hid (ws_to_no HW14.out 99 (by omega))
  go_wp2_with fail
  refine HC.out.mono ?_
  rintro E WX ⟨rfl, rfl⟩
  clear HC
  have HC := Lib.hid (ws_to_no HW14.out 1099511627777 (by omega))
  go_wp2_with fail
  refine HC.out.mono ?_
  rintro E WX ⟨rfl, rfl⟩
  clear HC
  have HC := Lib.hid (ws_to HW14.out (by simp) 100 (by omega) (by omega))
  rw [show dueK 100 ([(4, 0, 1099511627776)] : List Du) = 0 from by decide +kernel] at HC
  go_wp2_with fail
  refine HC.out.mono ?_
  rintro E W15 ⟨s14, c14, rfl, hS, hW, hO, hI⟩
  clear HC
  rw [show List.drop 0 ([(4, 0, 1099511627776)] : List Du) = ([(4, 0, 1099511627776)] : List Du) from by decide +kernel] at hW
  have HW15 := Lib.hid hW
  clear hW
  have HS13n := Lib.hid (HS13.out.only hO (fun _ => HI13.out))
  clear HS13
  have HS13 := HS13n
  clear HS13n
  clear hO
  rw [show List.take 0 ([(4, 0, 1099511627776)] : List Du) = ([] : List Du) from by decide +kernel] at hS
  have HS14 := Lib.hid hS
  have HI14 := Lib.hid hI
  clear hS hI
  have HLn := Lib.hid (ws_len HW15.out)
  go_wp2_with fail
  refine HLn.out.mono ?_
  rintro E WX ⟨rfl, rfl⟩
  clear HLn
  have HC := Lib.hid (ws_to HW15.out (by simp) 1099511627776 (by omega) (by omega))
  rw [show dueK 1099511627776 ([(4, 0, 1099511627776)] : List Du) = 1 from by decide +kernel] at HC
  go_wp2_with fail
  refine HC.out.mono ?_
  rintro E W16 ⟨s15, c15, rfl, hS, hW, hO, hI⟩
  clear HC
  rw [show List.drop 1 ([(4, 0, 1099511627776)] : List Du) = ([] : List Du) from by decide +kernel] at hW
  have HW16 := Lib.hid hW
  clear hW
  have HS13n := Lib.hid (HS13.out.only hO (fun _ => HI13.out))
  clear HS13
  have HS13 := HS13n
  clear HS13n
  clear hO
  rw [show List.take 1 ([(4, 0, 1099511627776)] : List Du) = ([(4, 0, 1099511627776)] : List Du) from by decide +kernel] at hS
  have HS15 := Lib.hid hS
  have HI15 := Lib.hid hI
  clear hS hI
  have HC := Lib.hid (ws_next HW16.out (by simp))
  rw [show nextD ([] : List Du) = (0, false) from by decide +kernel] at HC
  dsimp only at HC
  go_wp2_with fail
  refine HC.out.mono ?_
  rintro E W17 ⟨rfl, hW, hO⟩
  clear HC
  have HW17 := Lib.hid hW
  clear hW
  have HS13n := Lib.hid (HS13.out.only hO (fun _ => HI13.out))
  clear HS13
  have HS13 := HS13n
  clear HS13n
  clear hO
  have KL := kept_al W17 (.cells (duVs ([(1, 9, 70), (2, 0, 70), (2, 1, 70)] : List Du)).toArray 43)
  have HKL := Lib.hid KL
  have HDu := Lib.hid (dues_law (HS13.out.kept KL) (slD_lit (P := Try.prog) W17 43 ([(1, 9, 70), (2, 0, 70), (2, 1, 70)] : List Du) 3 rfl (by omega)) (by omega) (by omega))
  rw [show (([(1, 9, 70), (2, 0, 70), (2, 1, 70)] : List Du) == ([(1, 9, 70), (2, 0, 70), (2, 1, 70)] : List Du)) = true from by decide +kernel] at HDu
  clear KL
  go_wp2_with fail
  refine HDu.out.mono ?_
  rintro E VD ⟨rfl, hD⟩
  have hWD := HW17.out.keep (HKL.out.dr hD)
  have HLn := Lib.hid (ws_len hWD)
  have HKF := Lib.hid (HK0.out.trans hWD.kept)
  clear hWD hD HDu
  go_wp2_with fail
  refine HLn.out.mono ?_
  rintro E VE ⟨rfl, rfl⟩
  go_wp2_with fail
  go_ret
  exact ⟨rfl, HKF.out⟩
end Go.Proofs.Ytneehfngphpccaa
