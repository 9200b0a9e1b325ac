/- Graphs: the law's helpers: three, awake. -/
import Derived.Test.YtboohafebkkdbaaGr12
set_option linter.unusedVariables false
set_option linter.unusedSimpArgs false
namespace Go.Proofs.Ytboohafebkkdbaa
open Go.RowKit
def T3 : List Ed := [(0, 1), (1, 2), (0, 2)]
theorem g_three (w : World) : Calls Try.prog 16 #[] w fun e w' => ∃ a, e = .returned (.agg #[.int .i64 3, .slice a 3 3]) ∧ SlE w' a 3 3 T3 ∧ Kept w w' := by
  have hsz : (w.alloc (.cells #[.int .i64 3, .slice (some ⟨w.heap.size + 1, 0, none⟩) 3 3] 24)).heap.size = w.heap.size + 1 := by simp
  have hL := slE_lit (w.alloc (.cells #[.int .i64 3, .slice (some ⟨w.heap.size + 1, 0, none⟩) 3 3] 24)) 35 T3 3 rfl (by omega)
  rw [hsz] at hL
  have hB := heap_keep (heap_alloc_new w (.cells #[.int .i64 3, .slice (some ⟨w.heap.size + 1, 0, none⟩) 3 3] 24)) (.cells (edVs T3).toArray 35)
  have j0 := at_cell hB 0 _ rfl
  have j1 := at_cell hB 1 _ rfl
  have HKF := Lib.hid ((kept_al w (.cells #[.int .i64 3, .slice (some ⟨w.heap.size + 1, 0, none⟩) 3 3] 24)).trans (kept_al _ (.cells (edVs T3).toArray 35)))
  have HSF := Lib.hid hL
  clear hB hsz hL
  have hT : (edVs T3).toArray = #[.int .i64 0, .int .i64 1, .int .i64 1, .int .i64 2, .int .i64 0, .int .i64 2] := rfl
  rw [hT] at j0 j1 HKF HSF
  clear hT
  go_enter Try.func16, Try.ntmps16
  go_wp2_with fail
  exact bodyPost_ret (v := .agg #[.int .i64 3, .slice (some ⟨w.heap.size + 1, 0, none⟩) 3 3]) (by simp [results, Try.results16, go_sem, j0, j1]) rfl ⟨_, rfl, HSF.out, HKF.out⟩
theorem t3_good : goodG 3 T3 = true := by decide +kernel
theorem t3_short : shortL 3 T3 = [(0, 1), (1, 2)] := by decide +kernel
theorem t3_reach : reachL 3 T3 0 = [1, 2] := by decide +kernel
set_option maxRecDepth 100000 in
set_option maxHeartbeats 8000000 in
theorem awake10 (X : World) : Calls Try.prog 8 #[] X fun e w' => e = .returned (.bool true) ∧ Kept X w' := by
  go_enter Try.func8, Try.ntmps8
  go_wp2_with fail
  refine (g_three X).mono ?_
  rintro E V1 ⟨a1, rfl, hS1, hK1⟩
  have HC := Lib.hid (g_short 3 hS1 (by omega))
  rw [t3_short] at HC
  have HK1 := Lib.hid hK1
  clear hS1 hK1
  go_wp2_with fail
  refine HC.out.mono ?_
  rintro E V2 ⟨a2, k2, c2, rfl, hS2, hK2, _⟩
  obtain rfl : k2 = 2 := hS2.1.symm
  have KB := kept_al V2 (.cells #[.int .i64 3, .slice a2 2 c2] 24)
  have HK2 := Lib.hid ((HK1.out.trans hK2).trans KB)
  have hB := heap_alloc_new V2 (.cells #[.int .i64 3, .slice a2 2 c2] 24)
  have HS2 := Lib.hid (hS2.kept KB)
  have x1 := at_cell hB 1 _ rfl
  clear hS2 hK2 KB hB HC
  go_wp2_with fail
  generalize World.alloc V2 _ = Y at *
  generalize hbx : V2.heap.size = bx at *
  clear hbx
  refine (g_three Y).mono ?_
  rintro E V3 ⟨a3, rfl, hS3, hK3⟩
  have HG := Lib.hid (g_good 3 hS3 (by omega))
  rw [t3_good] at HG
  have HK3 := Lib.hid hK3
  clear hS3 hK3
  go_wp2_with fail
  refine HG.out.mono ?_
  rintro E V4 ⟨rfl, hK4⟩
  have hK := HK3.out.trans hK4
  replace x1 := hK.cel x1
  have KL := kept_al V4 (.cells (edVs [(0, 1), (1, 2)]).toArray 34)
  have HE := Lib.hid (edges_law (HS2.out.kept (hK.trans KL)) (slE_lit V4 34 [(0, 1), (1, 2)] 2 rfl (by omega)) (by omega) (by omega))
  rw [show (([(0, 1), (1, 2)] : List Ed) == [(0, 1), (1, 2)]) = true from by decide] at HE
  have HK4 := Lib.hid ((HK2.out.trans hK).trans KL)
  clear hK hK4 KL HG HK3
  go_wp2_with fail
  refine HE.out.mono ?_
  rintro E V5 ⟨rfl, hD5⟩
  have HK5 := Lib.hid (HK4.out.dr hD5)
  clear hD5 HE x1
  go_wp2_with fail
  refine (g_three V5).mono ?_
  rintro E V6 ⟨a6, rfl, hS6, hK6⟩
  have HR := Lib.hid (g_reach 3 0 hS6 (by omega))
  rw [t3_reach] at HR
  have HK6 := Lib.hid (HK5.out.trans hK6)
  clear hS6 hK6
  go_wp2_with fail
  refine HR.out.mono ?_
  rintro E V7 ⟨a7, k7, c7, rfl, hS7, hK7, _, _⟩
  obtain rfl : k7 = 2 := hS7.1.symm
  have KL := kept_al V7 (.cells #[.int .i64 1, .int .i64 2] 3)
  have HI := Lib.hid (ints_law (KL.sl hS7) (sl_lit .i64 V7 3 (0, 0) [1, 2] 2 rfl (by unfold maxLen; omega)) (by omega) (by omega))
  rw [show (([1, 2] : List Int) == [1, 2]) = true from by decide] at HI
  have HK7 := Lib.hid ((HK6.out.trans hK7).trans KL)
  clear hS7 hK7 KL HR
  go_wp2_with fail
  refine HI.out.mono ?_
  rintro E V8 ⟨rfl, hD8⟩
  have HK8 := Lib.hid (HK7.out.dr hD8)
  clear hD8 HI
  go_wp2_with fail
  go_ret
  exact ⟨rfl, HK8.out⟩
end Go.Proofs.Ytboohafebkkdbaa
