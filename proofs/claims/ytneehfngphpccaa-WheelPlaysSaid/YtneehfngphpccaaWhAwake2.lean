/- The wheel's laws: awake. -/
import Derived.Test.YtneehfngphpccaaWhAwake
set_option linter.unusedVariables false
set_option linter.unusedSimpArgs false
namespace Go.Proofs.Ytneehfngphpccaa
open Go.RowKit
theorem slD_lit {P : Program} (w : World) (e : TypeId) (L : List Du) (n : Nat) (hl : L.length = n) (hn : n ≤ 1000) : SlD (w.alloc (.cells (duVs L).toArray e)) (some ⟨w.heap.size, 0, none⟩) n n L := by
  refine ⟨hl, Nat.le_refl _, by unfold maxLen; omega, fun _ => ⟨_, _, rfl, by simp, fun j u hu => ?_⟩⟩
  rw [cell_of_row _ _ _ _ _ _ (heap_alloc_new w _), Nat.zero_add]
  simpa using hu
set_option maxRecDepth 100000 in
set_option maxHeartbeats 4000000 in
theorem awake14 (X : World) : Calls Try.prog 6 #[] X fun e w' => e = .returned (.bool true) ∧ Kept X w' := by
  go_enter Try.func6, Try.ntmps6
  go_wp2_with fail
  refine (ws_new X).mono ?_
  rintro E V1 ⟨p, q, rfl, hW1⟩
  have HC := Lib.hid (ws_set hW1 1 0 5 (by omega) (by omega))
  clear hW1
  go_wp2_with fail
  refine HC.out.mono ?_
  rintro E V2 ⟨rfl, hW2, _⟩
  rw [show insD (1, 0, 5) (dropD 1 0 []) = [(1, 0, 5)] from by decide] at hW2
  have HC2 := Lib.hid (ws_to hW2 (by simp) 4 (by omega) (by omega))
  rw [show dueK 4 [(1, 0, 5)] = 0 from by decide] at HC2
  clear hW2 HC
  go_wp2_with fail
  refine HC2.out.mono ?_
  rintro E V3 ⟨a3, c3, rfl, _, hW3, _, _⟩
  rw [List.drop_zero] at hW3
  have HC3 := Lib.hid (ws_to hW3 (by simp) 5 (by omega) (by omega))
  rw [show dueK 5 [(1, 0, 5)] = 1 from by decide] at HC3
  clear hW3 HC2
  go_wp2_with fail
  refine HC3.out.mono ?_
  rintro E V4 ⟨a4, c4, rfl, hS4, hW4, _, _⟩
  have HS4 := Lib.hid hS4
  have HW4 := Lib.hid hW4
  have KL := kept_al V4 (.cells (duVs [(1, 0, 5)]).toArray 43)
  have HKL := Lib.hid KL
  have HDu := Lib.hid (dues_law (hS4.kept KL) (slD_lit (P := Try.prog) V4 43 [(1, 0, 5)] 1 rfl (by omega)) (by omega) (by omega))
  have hb : ([((1 : Int), (0 : Int), (5 : Int))].take 1 == [(1, 0, 5)]) = true := by decide
  rw [hb] at HDu
  clear hS4 hW4 KL HC3 hb
  go_wp2_with fail
  refine HDu.out.mono ?_
  rintro E V5 ⟨rfl, hD5⟩
  have hW5 := HW4.out.keep (HKL.out.dr hD5)
  have HN := Lib.hid (ws_now hW5)
  have HK := Lib.hid hW5.kept
  clear hW5 hD5 HDu
  go_wp2_with fail
  refine HN.out.mono ?_
  rintro E V6 ⟨rfl, rfl⟩
  go_wp2_with fail
  go_ret
  exact ⟨rfl, HK.out⟩
end Go.Proofs.Ytneehfngphpccaa
