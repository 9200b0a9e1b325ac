/- Orders: fixed examples (written by gen_toknown.py). -/
import Derived.Test.YtmejphlpcgochaaToAw
import Derived.Test.YtmejphlpcgochaaTo4
set_option linter.unusedVariables false
set_option linter.unusedSimpArgs false
namespace Go.Proofs.Ytmejphlpcgochaa
open Go.RowKit
def tC : List Ed := [(0, 1), (1, 0)]
def tG : List Ed := [(0, 1), (0, 2), (1, 3), (2, 3), (0, 3)]
theorem tk_o1 : orderT 2 tC = none := by decide +kernel
theorem tk_l1 : levT 2 tC = none := by decide +kernel
theorem tk_p1 : pthR 2 tC 0 1 = 0 ∧ okP 2 tC 0 1 = false := by decide +kernel
theorem tk_l2 : levT 4 tG = some [0, 1, 1, 2] := by decide +kernel
theorem tk_p2 : pthR 4 tG 0 3 = 3 ∧ okP 4 tG 0 3 = true := by decide +kernel
theorem tk_p3 : pthR 4 tG 1 2 = 0 ∧ okP 4 tG 1 2 = true := by decide +kernel
theorem tk_p4 : pthR 4 tG 2 2 = 1 ∧ okP 4 tG 2 2 = true := by decide +kernel
theorem tk_p5 : pthR 4 tG 0 4 = 0 ∧ okP 4 tG 0 4 = false := by decide +kernel
theorem tk_o2 : orderT 0 [] = some [] := by decide +kernel
theorem tk_g1 : longT 4 tG = 3 := by decide +kernel
theorem tk_g2 : longT 0 [] = 0 := by decide +kernel
theorem tk_g3 : longT 2 tC = 0 := by decide +kernel
theorem tk_i0 : isT 4 tG [0, 2, 1, 3] = true := by decide +kernel
theorem tk_i1 : isT 4 tG [0, 1, 3, 2] = false := by decide +kernel
theorem tk_i2 : isT 4 tG [0, 1, 2] = false := by decide +kernel
theorem tk_i3 : isT 4 tG [0, 0, 1, 3] = false := by decide +kernel
theorem tk_i4 : isT 2 tC [0, 1] = false := by decide +kernel
theorem tk_i9 : isT 0 [] [] = true := by decide +kernel
theorem slE_none (w : World) : SlE w none 0 0 [] := ⟨rfl, Nat.le_refl _, by unfold maxLen; omega, fun h => by omega⟩
def eB (L : List Ed) : Obj := .cells (edVs L).toArray 33
def gO (N : Int) (s n : Nat) : Obj := .cells #[.int .i64 N, .slice (some ⟨s, 0, none⟩) n n] 24
def twoT (w : World) : World := (((w.alloc (eB tC)).alloc (gO 2 w.heap.size 2)).alloc (eB tG)).alloc (gO 4 (w.heap.size + 1 + 1) 5)
theorem two_rows (w : World) : Kept w (twoT w) ∧ SlE (twoT w) (some ⟨w.heap.size, 0, none⟩) 2 2 tC ∧ SlE (twoT w) (some ⟨w.heap.size + 1 + 1, 0, none⟩) 5 5 tG ∧ (twoT w).heap[w.heap.size + 1]? = some (gO 2 w.heap.size 2) ∧ (twoT w).heap[w.heap.size + 1 + 1 + 1]? = some (gO 4 (w.heap.size + 1 + 1) 5) := by
  have k1 := kept_al w (eB tC)
  have l1 := slE_lit w 33 tC 2 rfl (by omega)
  have s1 : (w.alloc (eB tC)).heap.size = w.heap.size + 1 := by simp
  have k2 := kept_al (w.alloc (eB tC)) (gO 2 w.heap.size 2)
  have h2 := heap_alloc_new (w.alloc (eB tC)) (gO 2 w.heap.size 2)
  have s2 : ((w.alloc (eB tC)).alloc (gO 2 w.heap.size 2)).heap.size = w.heap.size + 1 + 1 := by simp
  have k3 := kept_al ((w.alloc (eB tC)).alloc (gO 2 w.heap.size 2)) (eB tG)
  have l3 := slE_lit ((w.alloc (eB tC)).alloc (gO 2 w.heap.size 2)) 33 tG 5 rfl (by omega)
  have s3 : (((w.alloc (eB tC)).alloc (gO 2 w.heap.size 2)).alloc (eB tG)).heap.size = w.heap.size + 1 + 1 + 1 := by simp
  have k4 : Kept _ (twoT w) := kept_al (((w.alloc (eB tC)).alloc (gO 2 w.heap.size 2)).alloc (eB tG)) (gO 4 (w.heap.size + 1 + 1) 5)
  have h4 : (twoT w).heap[_]? = _ := heap_alloc_new (((w.alloc (eB tC)).alloc (gO 2 w.heap.size 2)).alloc (eB tG)) (gO 4 (w.heap.size + 1 + 1) 5)
  rw [s1] at h2
  rw [s2] at l3
  rw [s3] at h4
  exact ⟨((k1.trans k2).trans k3).trans k4, l1.kept ((k2.trans k3).trans k4), l3.kept k4, (k3.trans k4).only.heap h2 (by simp), h4⟩
set_option maxRecDepth 100000 in
set_option maxHeartbeats 16000000 in
theorem topoKnown_law (w : World) : Calls Try.prog 4 #[] w fun e w' => e = .returned (.bool true) ∧ Kept w w' := by
  have HAw := Lib.hid (awake11 w)
  go_enter Try.func4, Try.ntmps4
  go_wp2_with fail
  refine HAw.out.mono ?_
  rintro E1 V1 ⟨rfl, hK1⟩
  have HK1 := Lib.hid hK1
  clear hK1 HAw
  go_upto_region 5 with fail
  change Code.wp _ _ _ _ (twoT V1)
  obtain ⟨KT, hEA, hEB, hBA, hBB⟩ := two_rows V1
  have HEA := Lib.hid hEA
  have HEB := Lib.hid hEB
  have HBA := Lib.hid hBA
  have HBB := Lib.hid hBB
  have HK := Lib.hid (HK1.out.trans KT)
  clear KT hEA hEB hBA hBB HK1
  generalize twoT V1 = Z0 at *
  have c0 := at_cell HBA.out 0 _ rfl
  have c1 := at_cell HBA.out 1 _ rfl
  have HC := Lib.hid (t_order 2 HEA.out)
  rw [tk_o1] at HC
  go_wp2_with fail
  refine HC.out.mono ?_
  rintro E Z1 ⟨a, k, q, rfl, hS, hK, -, -⟩
  obtain rfl : 0 = k := hS.1
  replace HEA := Lib.hid (HEA.out.kept hK)
  replace HEB := Lib.hid (HEB.out.kept hK)
  replace HBA := Lib.hid (hK.only.heap HBA.out (by simp))
  replace HBB := Lib.hid (hK.only.heap HBB.out (by simp))
  replace HK := Lib.hid (HK.out.trans hK)
  clear hS hK HC c0 c1
  simp only [Option.isSome_none, Option.isSome_some]
  have c0 := at_cell HBA.out 0 _ rfl
  have c1 := at_cell HBA.out 1 _ rfl
  have HC := Lib.hid (t_levels 2 HEA.out)
  rw [tk_l1] at HC
  go_wp2_with fail
  refine HC.out.mono ?_
  rintro E Z2 ⟨a, k, q, rfl, hS, hK, -, -⟩
  obtain rfl : 0 = k := hS.1
  replace HEA := Lib.hid (HEA.out.kept hK)
  replace HEB := Lib.hid (HEB.out.kept hK)
  replace HBA := Lib.hid (hK.only.heap HBA.out (by simp))
  replace HBB := Lib.hid (hK.only.heap HBB.out (by simp))
  replace HK := Lib.hid (HK.out.trans hK)
  clear hS hK HC c0 c1
  simp only [Option.isSome_none, Option.isSome_some]
  have c0 := at_cell HBA.out 0 _ rfl
  have c1 := at_cell HBA.out 1 _ rfl
  have HC := Lib.hid (t_paths 2 0 1 HEA.out)
  rw [tk_p1.1, tk_p1.2] at HC
  go_wp2_with fail
  refine HC.out.mono ?_
  rintro E Z3 ⟨rfl, hK⟩
  replace HEA := Lib.hid (HEA.out.kept hK)
  replace HEB := Lib.hid (HEB.out.kept hK)
  replace HBA := Lib.hid (hK.only.heap HBA.out (by simp))
  replace HBB := Lib.hid (hK.only.heap HBB.out (by simp))
  replace HK := Lib.hid (HK.out.trans hK)
  clear hK HC c0 c1
  have c0 := at_cell HBB.out 0 _ rfl
  have c1 := at_cell HBB.out 1 _ rfl
  have HC := Lib.hid (t_levels 4 HEB.out)
  rw [tk_l2] at HC
  go_wp2_with fail
  refine HC.out.mono ?_
  rintro E Z4 ⟨la, k, lq, rfl, hS, hK, -, -⟩
  have hS2 : Sl .i64 Z4 la k lq [0, 1, 1, 2] := hS
  obtain rfl : 4 = k := hS2.1
  replace HEA := Lib.hid (HEA.out.kept hK)
  replace HEB := Lib.hid (HEB.out.kept hK)
  replace HBA := Lib.hid (hK.only.heap HBA.out (by simp))
  replace HBB := Lib.hid (hK.only.heap HBB.out (by simp))
  replace HK := Lib.hid (HK.out.trans hK)
  have HSL := Lib.hid hS2
  clear hS hS2 hK HC c0 c1
  simp only [Option.isSome_none, Option.isSome_some]
  have c0 := at_cell HBB.out 0 _ rfl
  have c1 := at_cell HBB.out 1 _ rfl
  have HC := Lib.hid (t_paths 4 0 3 HEB.out)
  rw [tk_p2.1, tk_p2.2] at HC
  go_wp2_with fail
  refine HC.out.mono ?_
  rintro E Z5 ⟨rfl, hK⟩
  replace HEA := Lib.hid (HEA.out.kept hK)
  replace HEB := Lib.hid (HEB.out.kept hK)
  replace HBA := Lib.hid (hK.only.heap HBA.out (by simp))
  replace HBB := Lib.hid (hK.only.heap HBB.out (by simp))
  replace HK := Lib.hid (HK.out.trans hK)
  replace HSL := Lib.hid (hK.sl HSL.out)
  clear hK HC c0 c1
  have c0 := at_cell HBB.out 0 _ rfl
  have c1 := at_cell HBB.out 1 _ rfl
  have HC := Lib.hid (t_paths 4 1 2 HEB.out)
  rw [tk_p3.1, tk_p3.2] at HC
  go_wp2_with fail
  refine HC.out.mono ?_
  rintro E Z6 ⟨rfl, hK⟩
  replace HEA := Lib.hid (HEA.out.kept hK)
  replace HEB := Lib.hid (HEB.out.kept hK)
  replace HBA := Lib.hid (hK.only.heap HBA.out (by simp))
  replace HBB := Lib.hid (hK.only.heap HBB.out (by simp))
  replace HK := Lib.hid (HK.out.trans hK)
  replace HSL := Lib.hid (hK.sl HSL.out)
  clear hK HC c0 c1
  have c0 := at_cell HBB.out 0 _ rfl
  have c1 := at_cell HBB.out 1 _ rfl
  have HC := Lib.hid (t_paths 4 2 2 HEB.out)
  rw [tk_p4.1, tk_p4.2] at HC
  go_wp2_with fail
  refine HC.out.mono ?_
  rintro E Z7 ⟨rfl, hK⟩
  replace HEA := Lib.hid (HEA.out.kept hK)
  replace HEB := Lib.hid (HEB.out.kept hK)
  replace HBA := Lib.hid (hK.only.heap HBA.out (by simp))
  replace HBB := Lib.hid (hK.only.heap HBB.out (by simp))
  replace HK := Lib.hid (HK.out.trans hK)
  replace HSL := Lib.hid (hK.sl HSL.out)
  clear hK HC c0 c1
  have c0 := at_cell HBB.out 0 _ rfl
  have c1 := at_cell HBB.out 1 _ rfl
  have HC := Lib.hid (t_paths 4 0 4 HEB.out)
  rw [tk_p5.1, tk_p5.2] at HC
  go_wp2_with fail
  refine HC.out.mono ?_
  rintro E Z8 ⟨rfl, hK⟩
  replace HEA := Lib.hid (HEA.out.kept hK)
  replace HEB := Lib.hid (HEB.out.kept hK)
  replace HBA := Lib.hid (hK.only.heap HBA.out (by simp))
  replace HBB := Lib.hid (hK.only.heap HBB.out (by simp))
  replace HK := Lib.hid (HK.out.trans hK)
  replace HSL := Lib.hid (hK.sl HSL.out)
  clear hK HC c0 c1
  have HC := Lib.hid (t_order 0 (slE_none Z8))
  rw [tk_o2] at HC
  go_wp2_with fail
  refine HC.out.mono ?_
  rintro E Z9 ⟨a, k, q, rfl, hS, hK, -, -⟩
  obtain rfl : 0 = k := hS.1
  replace HEA := Lib.hid (HEA.out.kept hK)
  replace HEB := Lib.hid (HEB.out.kept hK)
  replace HBA := Lib.hid (hK.only.heap HBA.out (by simp))
  replace HBB := Lib.hid (hK.only.heap HBB.out (by simp))
  replace HK := Lib.hid (HK.out.trans hK)
  replace HSL := Lib.hid (hK.sl HSL.out)
  clear hS hK HC
  simp only [Option.isSome_none, Option.isSome_some]
  have hK := kept_al Z9 (.cells (([0, 1, 1, 2] : List Int).map (Value.int .i64)).toArray 3)
  have HC := Lib.hid (ints_law (hK.sl HSL.out) (sl_lit .i64 Z9 3 (0, 0) [0, 1, 1, 2] 4 rfl (by unfold maxLen; omega)) (by omega) (by omega))
  rw [show (([0, 1, 1, 2] : List Int) == [0, 1, 1, 2]) = true from by decide] at HC
  replace HEA := Lib.hid (HEA.out.kept hK)
  replace HEB := Lib.hid (HEB.out.kept hK)
  replace HBA := Lib.hid (hK.only.heap HBA.out (by simp))
  replace HBB := Lib.hid (hK.only.heap HBB.out (by simp))
  replace HK := Lib.hid (HK.out.trans hK)
  clear hK HSL
  go_wp2_with fail
  refine HC.out.mono ?_
  rintro E Z10 ⟨rfl, hD⟩
  have hK : Kept _ Z10 := (Kept.refl _).dr hD
  replace HEA := Lib.hid (HEA.out.kept hK)
  replace HEB := Lib.hid (HEB.out.kept hK)
  replace HBA := Lib.hid (hK.only.heap HBA.out (by simp))
  replace HBB := Lib.hid (hK.only.heap HBB.out (by simp))
  replace HK := Lib.hid (HK.out.trans hK)
  clear hK hD HC
  have c0 := at_cell HBB.out 0 _ rfl
  have c1 := at_cell HBB.out 1 _ rfl
  have HC := Lib.hid (t_long 4 HEB.out)
  rw [tk_g1] at HC
  go_wp2_with fail
  refine HC.out.mono ?_
  rintro E Z11 ⟨rfl, hK⟩
  replace HEA := Lib.hid (HEA.out.kept hK)
  replace HEB := Lib.hid (HEB.out.kept hK)
  replace HBA := Lib.hid (hK.only.heap HBA.out (by simp))
  replace HBB := Lib.hid (hK.only.heap HBB.out (by simp))
  replace HK := Lib.hid (HK.out.trans hK)
  clear hK HC c0 c1
  have HC := Lib.hid (t_long 0 (slE_none Z11))
  rw [tk_g2] at HC
  go_wp2_with fail
  refine HC.out.mono ?_
  rintro E Z12 ⟨rfl, hK⟩
  replace HEA := Lib.hid (HEA.out.kept hK)
  replace HEB := Lib.hid (HEB.out.kept hK)
  replace HBA := Lib.hid (hK.only.heap HBA.out (by simp))
  replace HBB := Lib.hid (hK.only.heap HBB.out (by simp))
  replace HK := Lib.hid (HK.out.trans hK)
  clear hK HC
  have c0 := at_cell HBA.out 0 _ rfl
  have c1 := at_cell HBA.out 1 _ rfl
  have HC := Lib.hid (t_long 2 HEA.out)
  rw [tk_g3] at HC
  go_wp2_with fail
  refine HC.out.mono ?_
  rintro E Z13 ⟨rfl, hK⟩
  replace HEA := Lib.hid (HEA.out.kept hK)
  replace HEB := Lib.hid (HEB.out.kept hK)
  replace HBA := Lib.hid (hK.only.heap HBA.out (by simp))
  replace HBB := Lib.hid (hK.only.heap HBB.out (by simp))
  replace HK := Lib.hid (HK.out.trans hK)
  clear hK HC c0 c1
  have hK := kept_al Z13 (.cells (([0, 2, 1, 3] : List Int).map (Value.int .i64)).toArray 3)
  have c0 := at_cell HBB.out 0 _ rfl
  have c1 := at_cell HBB.out 1 _ rfl
  have HC := Lib.hid (t_is 4 (HEB.out.kept hK) (by omega) (sl_lit .i64 Z13 3 (0, 0) [0, 2, 1, 3] 4 rfl (by unfold maxLen; omega)) (by omega))
  rw [tk_i0] at HC
  replace HEA := Lib.hid (HEA.out.kept hK)
  replace HEB := Lib.hid (HEB.out.kept hK)
  replace HBA := Lib.hid (hK.only.heap HBA.out (by simp))
  replace HBB := Lib.hid (hK.only.heap HBB.out (by simp))
  replace HK := Lib.hid (HK.out.trans hK)
  clear hK
  go_wp2_with fail
  refine HC.out.mono ?_
  rintro E Z14 ⟨rfl, hK⟩
  replace HEA := Lib.hid (HEA.out.kept hK)
  replace HEB := Lib.hid (HEB.out.kept hK)
  replace HBA := Lib.hid (hK.only.heap HBA.out (by simp))
  replace HBB := Lib.hid (hK.only.heap HBB.out (by simp))
  replace HK := Lib.hid (HK.out.trans hK)
  clear hK HC c0 c1
  have hK := kept_al Z14 (.cells (([0, 1, 3, 2] : List Int).map (Value.int .i64)).toArray 3)
  have c0 := at_cell HBB.out 0 _ rfl
  have c1 := at_cell HBB.out 1 _ rfl
  have HC := Lib.hid (t_is 4 (HEB.out.kept hK) (by omega) (sl_lit .i64 Z14 3 (0, 0) [0, 1, 3, 2] 4 rfl (by unfold maxLen; omega)) (by omega))
  rw [tk_i1] at HC
  replace HEA := Lib.hid (HEA.out.kept hK)
  replace HEB := Lib.hid (HEB.out.kept hK)
  replace HBA := Lib.hid (hK.only.heap HBA.out (by simp))
  replace HBB := Lib.hid (hK.only.heap HBB.out (by simp))
  replace HK := Lib.hid (HK.out.trans hK)
  clear hK
  go_wp2_with fail
  refine HC.out.mono ?_
  rintro E Z15 ⟨rfl, hK⟩
  replace HEA := Lib.hid (HEA.out.kept hK)
  replace HEB := Lib.hid (HEB.out.kept hK)
  replace HBA := Lib.hid (hK.only.heap HBA.out (by simp))
  replace HBB := Lib.hid (hK.only.heap HBB.out (by simp))
  replace HK := Lib.hid (HK.out.trans hK)
  clear hK HC c0 c1
  have hK := kept_al Z15 (.cells (([0, 1, 2] : List Int).map (Value.int .i64)).toArray 3)
  have c0 := at_cell HBB.out 0 _ rfl
  have c1 := at_cell HBB.out 1 _ rfl
  have HC := Lib.hid (t_is 4 (HEB.out.kept hK) (by omega) (sl_lit .i64 Z15 3 (0, 0) [0, 1, 2] 3 rfl (by unfold maxLen; omega)) (by omega))
  rw [tk_i2] at HC
  replace HEA := Lib.hid (HEA.out.kept hK)
  replace HEB := Lib.hid (HEB.out.kept hK)
  replace HBA := Lib.hid (hK.only.heap HBA.out (by simp))
  replace HBB := Lib.hid (hK.only.heap HBB.out (by simp))
  replace HK := Lib.hid (HK.out.trans hK)
  clear hK
  go_wp2_with fail
  refine HC.out.mono ?_
  rintro E Z16 ⟨rfl, hK⟩
  replace HEA := Lib.hid (HEA.out.kept hK)
  replace HEB := Lib.hid (HEB.out.kept hK)
  replace HBA := Lib.hid (hK.only.heap HBA.out (by simp))
  replace HBB := Lib.hid (hK.only.heap HBB.out (by simp))
  replace HK := Lib.hid (HK.out.trans hK)
  clear hK HC c0 c1
  have hK := kept_al Z16 (.cells (([0, 0, 1, 3] : List Int).map (Value.int .i64)).toArray 3)
  have c0 := at_cell HBB.out 0 _ rfl
  have c1 := at_cell HBB.out 1 _ rfl
  have HC := Lib.hid (t_is 4 (HEB.out.kept hK) (by omega) (sl_lit .i64 Z16 3 (0, 0) [0, 0, 1, 3] 4 rfl (by unfold maxLen; omega)) (by omega))
  rw [tk_i3] at HC
  replace HEA := Lib.hid (HEA.out.kept hK)
  replace HEB := Lib.hid (HEB.out.kept hK)
  replace HBA := Lib.hid (hK.only.heap HBA.out (by simp))
  replace HBB := Lib.hid (hK.only.heap HBB.out (by simp))
  replace HK := Lib.hid (HK.out.trans hK)
  clear hK
  go_wp2_with fail
  refine HC.out.mono ?_
  rintro E Z17 ⟨rfl, hK⟩
  replace HEA := Lib.hid (HEA.out.kept hK)
  replace HEB := Lib.hid (HEB.out.kept hK)
  replace HBA := Lib.hid (hK.only.heap HBA.out (by simp))
  replace HBB := Lib.hid (hK.only.heap HBB.out (by simp))
  replace HK := Lib.hid (HK.out.trans hK)
  clear hK HC c0 c1
  have hK := kept_al Z17 (.cells (([0, 1] : List Int).map (Value.int .i64)).toArray 3)
  have c0 := at_cell HBA.out 0 _ rfl
  have c1 := at_cell HBA.out 1 _ rfl
  have HC := Lib.hid (t_is 2 (HEA.out.kept hK) (by omega) (sl_lit .i64 Z17 3 (0, 0) [0, 1] 2 rfl (by unfold maxLen; omega)) (by omega))
  rw [tk_i4] at HC
  replace HEA := Lib.hid (HEA.out.kept hK)
  replace HEB := Lib.hid (HEB.out.kept hK)
  replace HBA := Lib.hid (hK.only.heap HBA.out (by simp))
  replace HBB := Lib.hid (hK.only.heap HBB.out (by simp))
  replace HK := Lib.hid (HK.out.trans hK)
  clear hK
  go_wp2_with fail
  refine HC.out.mono ?_
  rintro E Z18 ⟨rfl, hK⟩
  replace HEA := Lib.hid (HEA.out.kept hK)
  replace HEB := Lib.hid (HEB.out.kept hK)
  replace HBA := Lib.hid (hK.only.heap HBA.out (by simp))
  replace HBB := Lib.hid (hK.only.heap HBB.out (by simp))
  replace HK := Lib.hid (HK.out.trans hK)
  clear hK HC c0 c1
  have HC := Lib.hid (t_is 0 (slE_none Z18) (by omega) (sl_nil .i64 Z18) (by omega))
  rw [tk_i9] at HC
  go_wp2_with fail
  refine HC.out.mono ?_
  rintro E Z19 ⟨rfl, hK⟩
  replace HEA := Lib.hid (HEA.out.kept hK)
  replace HEB := Lib.hid (HEB.out.kept hK)
  replace HBA := Lib.hid (hK.only.heap HBA.out (by simp))
  replace HBB := Lib.hid (hK.only.heap HBB.out (by simp))
  replace HK := Lib.hid (HK.out.trans hK)
  clear hK HC
  go_wp2_with fail
  go_ret
  exact ⟨rfl, HK.out⟩
end Go.Proofs.Ytmejphlpcgochaa
