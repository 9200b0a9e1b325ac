/- Orders: what the document tells. -/
import Derived.Test.YtmejphlpcgochaaTo5
import Derived.Test.YtmejphlpcgochaaGrI
set_option linter.unusedVariables false
set_option linter.unusedSimpArgs false
namespace Go.Proofs.Ytmejphlpcgochaa
open Go.RowKit
theorem aw_order : orderT 3 [(2, 0)] = some [1, 2, 0] := by decide +kernel
set_option maxRecDepth 100000 in
set_option maxHeartbeats 8000000 in
theorem awake11 (X : World) : Calls Try.prog 8 #[] X fun e w' => e = .returned (.bool true) ∧ Kept X w' := by
  have hL := slE_lit X 33 [(2, 0)] 1 rfl (by omega)
  have HOr := Lib.hid (t_order 3 hL)
  have K0 := kept_al X (.cells (edVs [(2, 0)]).toArray 33)
  rw [aw_order] at HOr
  clear hL
  go_enter Try.func8, Try.ntmps8
  go_wp2_with fail
  refine HOr.out.mono ?_
  rintro E1 V1 ⟨oa, ok, oc, rfl, hSo, hK1, hok, -⟩
  have hSo' : Sl .i64 V1 oa ok oc [1, 2, 0] := hSo
  obtain rfl : 3 = ok := hSo'.1
  have HK1 := Lib.hid (K0.trans hK1)
  have KL := kept_al V1 (.cells (([1, 2, 0] : List Int).map (Value.int .i64)).toArray 3)
  have HI := Lib.hid (ints_law (KL.sl hSo') (sl_lit .i64 V1 3 (0, 0) [1, 2, 0] 3 rfl (by unfold maxLen; omega)) (by omega) (by omega))
  rw [show (([1, 2, 0] : List Int) == [1, 2, 0]) = true from by decide] at HI
  have HKL := Lib.hid (HK1.out.trans KL)
  clear hSo hSo' hK1 HOr KL K0
  go_wp2_with fail
  refine HI.out.mono ?_
  rintro E V2 ⟨rfl, hD⟩
  have HKF := Lib.hid (HKL.out.dr hD)
  clear hD HI
  go_wp2_with fail
  go_ret
  exact ⟨rfl, HKF.out⟩
end Go.Proofs.Ytmejphlpcgochaa
