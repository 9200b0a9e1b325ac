/- Graphs: fixed examples. -/
import Derived.Test.YtboohafebkkdbaaGr13
import Derived.Test.YtboohafebkkdbaaGrKnV
set_option linter.unusedVariables false
set_option linter.unusedSimpArgs false
namespace Go.Proofs.Ytboohafebkkdbaa
open Go.RowKit
def eB (L : List Ed) : Obj := .cells (edVs L).toArray 35
def badO (s : Nat) : Obj := .cells #[.int .i64 (-1), .slice none 0 0, .int .i64 17, .slice none 0 0, .int .i64 2, .slice (some ⟨s, 0, none⟩) 1 1, .int .i64 2, .slice (some ⟨s + 1, 0, none⟩) 1 1, .int .i64 2, .slice (some ⟨s + 1 + 1, 0, none⟩) 2 2, .int .i64 2, .slice (some ⟨s + 1 + 1 + 1, 0, none⟩) 1 1] 24
def badW (V : World) : World := ((((V.alloc (eB [(0, 2)])).alloc (eB [(1, 1)])).alloc (eB [(0, 1), (0, 1)])).alloc (eB [(-1, 1)])).alloc (badO V.heap.size)
theorem slE_none (w : World) : SlE w none 0 0 [] := ⟨rfl, Nat.le_refl _, by unfold maxLen; omega, fun h => by omega⟩
theorem bad_rows (V : World) : Kept V (badW V) ∧ ∀ i : Nat, i < 6 → ∃ (N : Int) (a : Option Addr) (n c : Nat) (E : List Ed), (badW V).cell? ⟨V.heap.size + 1 + 1 + 1 + 1, i * 2, none⟩ = some (.int .i64 N) ∧ (badW V).cell? ⟨V.heap.size + 1 + 1 + 1 + 1, i * 2 + 1, none⟩ = some (.slice a n c) ∧ SlE (badW V) a n c E ∧ n ≤ 2 ∧ goodG N E = false := by
  have k1 := kept_al V (eB [(0, 2)])
  have l1 := slE_lit V 35 [(0, 2)] 1 rfl (by omega)
  have s1 : (V.alloc (eB [(0, 2)])).heap.size = V.heap.size + 1 := by simp
  have k2 := kept_al (V.alloc (eB [(0, 2)])) (eB [(1, 1)])
  have l2 := slE_lit (V.alloc (eB [(0, 2)])) 35 [(1, 1)] 1 rfl (by omega)
  have s2 : ((V.alloc (eB [(0, 2)])).alloc (eB [(1, 1)])).heap.size = V.heap.size + 1 + 1 := by simp
  have k3 := kept_al ((V.alloc (eB [(0, 2)])).alloc (eB [(1, 1)])) (eB [(0, 1), (0, 1)])
  have l3 := slE_lit ((V.alloc (eB [(0, 2)])).alloc (eB [(1, 1)])) 35 [(0, 1), (0, 1)] 2 rfl (by omega)
  have s3 : (((V.alloc (eB [(0, 2)])).alloc (eB [(1, 1)])).alloc (eB [(0, 1), (0, 1)])).heap.size = V.heap.size + 1 + 1 + 1 := by simp
  have k4 := kept_al (((V.alloc (eB [(0, 2)])).alloc (eB [(1, 1)])).alloc (eB [(0, 1), (0, 1)])) (eB [(-1, 1)])
  have l4 := slE_lit (((V.alloc (eB [(0, 2)])).alloc (eB [(1, 1)])).alloc (eB [(0, 1), (0, 1)])) 35 [(-1, 1)] 1 rfl (by omega)
  have s4 : ((((V.alloc (eB [(0, 2)])).alloc (eB [(1, 1)])).alloc (eB [(0, 1), (0, 1)])).alloc (eB [(-1, 1)])).heap.size = V.heap.size + 1 + 1 + 1 + 1 := by simp
  have k5 : Kept _ (badW V) := kept_al ((((V.alloc (eB [(0, 2)])).alloc (eB [(1, 1)])).alloc (eB [(0, 1), (0, 1)])).alloc (eB [(-1, 1)])) (badO V.heap.size)
  have hB : (badW V).heap[_]? = _ := heap_alloc_new ((((V.alloc (eB [(0, 2)])).alloc (eB [(1, 1)])).alloc (eB [(0, 1), (0, 1)])).alloc (eB [(-1, 1)])) (badO V.heap.size)
  rw [s4] at hB
  rw [s1] at l2
  rw [s2] at l3
  rw [s3] at l4
  refine ⟨(((k1.trans k2).trans k3).trans k4).trans k5, fun i hi => ?_⟩
  obtain ⟨g0, g1, g2, g3, g4, g5⟩ := bad_good
  match i, hi with
  | 0, _ => exact ⟨-1, none, 0, 0, [], at_cell hB 0 _ rfl, at_cell hB 1 _ rfl, slE_none _, by omega, g0⟩
  | 1, _ => exact ⟨17, none, 0, 0, [], at_cell hB 2 _ rfl, at_cell hB 3 _ rfl, slE_none _, by omega, g1⟩
  | 2, _ => exact ⟨2, _, 1, 1, _, at_cell hB 4 _ rfl, at_cell hB 5 _ rfl, l1.kept (((k2.trans k3).trans k4).trans k5), by omega, g2⟩
  | 3, _ => exact ⟨2, _, 1, 1, _, at_cell hB 6 _ rfl, at_cell hB 7 _ rfl, l2.kept ((k3.trans k4).trans k5), by omega, g3⟩
  | 4, _ => exact ⟨2, _, 2, 2, _, at_cell hB 8 _ rfl, at_cell hB 9 _ rfl, l3.kept (k4.trans k5), by omega, g4⟩
  | 5, _ => exact ⟨2, _, 1, 1, _, at_cell hB 10 _ rfl, at_cell hB 11 _ rfl, l4.kept k5, by omega, g5⟩
def gO (N : Int) (s n : Nat) : Obj := .cells #[.int .i64 N, .slice (some ⟨s, 0, none⟩) n n] 24
def twoW (w : World) : World := (((w.alloc (eB gA)).alloc (gO 5 w.heap.size 6)).alloc (eB gB)).alloc (gO 4 (w.heap.size + 1 + 1) 4)
theorem two_rows (w : World) : Kept w (twoW w) ∧ SlE (twoW w) (some ⟨w.heap.size, 0, none⟩) 6 6 gA ∧ SlE (twoW w) (some ⟨w.heap.size + 1 + 1, 0, none⟩) 4 4 gB ∧ (twoW w).heap[w.heap.size + 1]? = some (gO 5 w.heap.size 6) ∧ (twoW w).heap[w.heap.size + 1 + 1 + 1]? = some (gO 4 (w.heap.size + 1 + 1) 4) := by
  have k1 := kept_al w (eB gA)
  have l1 := slE_lit w 35 gA 6 rfl (by omega)
  have s1 : (w.alloc (eB gA)).heap.size = w.heap.size + 1 := by simp
  have k2 := kept_al (w.alloc (eB gA)) (gO 5 w.heap.size 6)
  have h2 := heap_alloc_new (w.alloc (eB gA)) (gO 5 w.heap.size 6)
  have s2 : ((w.alloc (eB gA)).alloc (gO 5 w.heap.size 6)).heap.size = w.heap.size + 1 + 1 := by simp
  have k3 := kept_al ((w.alloc (eB gA)).alloc (gO 5 w.heap.size 6)) (eB gB)
  have l3 := slE_lit ((w.alloc (eB gA)).alloc (gO 5 w.heap.size 6)) 35 gB 4 rfl (by omega)
  have s3 : (((w.alloc (eB gA)).alloc (gO 5 w.heap.size 6)).alloc (eB gB)).heap.size = w.heap.size + 1 + 1 + 1 := by simp
  have k4 : Kept _ (twoW w) := kept_al (((w.alloc (eB gA)).alloc (gO 5 w.heap.size 6)).alloc (eB gB)) (gO 4 (w.heap.size + 1 + 1) 4)
  have h4 : (twoW w).heap[_]? = _ := heap_alloc_new (((w.alloc (eB gA)).alloc (gO 5 w.heap.size 6)).alloc (eB gB)) (gO 4 (w.heap.size + 1 + 1) 4)
  rw [s1] at h2
  rw [s2] at l3
  rw [s3] at h4
  exact ⟨((k1.trans k2).trans k3).trans k4, l1.kept ((k2.trans k3).trans k4), l3.kept k4, (k3.trans k4).only.heap h2 (by simp), h4⟩
theorem ungood {N : Int} {E : List Ed} (h : goodG N E = false) (n d : Int) : cycleL N E = [] ∧ besL N E n d = [] ∧ reachL N E n = [] := by
  unfold cycleL besL reachL
  rw [h]
  exact ⟨rfl, rfl, rfl⟩
set_option maxRecDepth 100000 in
set_option maxHeartbeats 16000000 in
theorem graphKnown_law (w : World) : Calls Try.prog 5 #[] w fun e w' => e = .returned (.bool true) ∧ Kept w w' := by
  have HAw := Lib.hid (awake10 w)
  go_enter Try.func5, Try.ntmps5
  go_wp2_with fail
  refine HAw.out.mono ?_
  rintro E1 V1 ⟨rfl, hK1⟩
  have HK1 := Lib.hid hK1
  clear hK1 HAw
  have HKB := Lib.hid (bad_rows V1).1
  have HRows := Lib.hid (bad_rows V1).2
  go_wp2_with fail
  go_loopw [2] (fun v wr => ∃ (i : Nat), v = .int .i64 (i : Nat) ∧ i ≤ 6 ∧ Hid (Kept (badW V1) wr)) (fun v _ => 6 - (intOf v).toNat)
  case atStart => exact ⟨0, rfl, by omega, Kept.refl (badW V1)⟩
  case round =>
    obtain ⟨i, rfl, hi, HKw⟩ := hrel
    by_cases hlt : i < 6
    · have hlt' : (i : Int) < 6 := by omega
      obtain ⟨N, a, n, c, E, c0, c1, hE, hn, hg⟩ := HRows.out i hlt
      replace c0 := HKw.out.cel c0
      replace c1 := HKw.out.cel c1
      have HE := Lib.hid (hE.kept HKw.out)
      have HU := Lib.hid (ungood hg)
      have HGd := Lib.hid (g_good N HE.out (by omega))
      rw [hg] at HGd
      clear hE hg
      go_wp2_with fail
      refine HGd.out.mono ?_
      rintro E2 V2 ⟨rfl, hK2⟩
      replace c0 := hK2.cel c0
      replace c1 := hK2.cel c1
      have HE2 := Lib.hid (HE.out.kept hK2)
      have HK2 := Lib.hid (HKw.out.trans hK2)
      have HC := Lib.hid (g_cycle N HE2.out (by omega))
      rw [(HU.out 0 0).1] at HC
      clear hK2 HGd HE
      go_wp2_with fail
      refine HC.out.mono ?_
      rintro E3 V3 ⟨a3, k3, q3, rfl, hS3, hK3, -, -⟩
      obtain rfl : 0 = k3 := hS3.1
      replace c0 := hK3.cel c0
      replace c1 := hK3.cel c1
      have HE3 := Lib.hid (HE2.out.kept hK3)
      have HK3 := Lib.hid (HK2.out.trans hK3)
      have HA := Lib.hid (g_ahead N 1 HE3.out (by omega))
      rw [(HU.out 1 1).2.1] at HA
      clear hS3 hK3 HC HE2
      go_wp2_with fail
      refine HA.out.mono ?_
      rintro E4 V4 ⟨a4, k4, q4, rfl, hS4, hK4, -, -⟩
      obtain rfl : 0 = k4 := hS4.1
      replace c0 := hK4.cel c0
      replace c1 := hK4.cel c1
      have HE4 := Lib.hid (HE3.out.kept hK4)
      have HK4 := Lib.hid (HK3.out.trans hK4)
      have HR := Lib.hid (g_reach N 0 HE4.out (by omega))
      rw [(HU.out 0 0).2.2] at HR
      clear hS4 hK4 HA HE3
      go_wp2_with fail
      refine HR.out.mono ?_
      rintro E5 V5 ⟨a5, k5, q5, rfl, hS5, hK5, -, -⟩
      obtain rfl : 0 = k5 := hS5.1
      have HK5 := Lib.hid (HK4.out.trans hK5)
      clear hS5 hK5 HR
      go_wp2_with fail
      go_roundw
      case rel => exact ⟨i + 1, by go_num, by omega, HK5.out⟩
      case measure => simp [intOf]; omega
    · have hge : (6 : Int) ≤ i := by omega
      have HKW := Lib.hid ((HK1.out.trans HKB.out).trans HKw.out)
      clear HRows HKB HKw
      go_wp2_with fail
      obtain ⟨KT, hEA, hEB, hBA, hBB⟩ := two_rows wr
      have HSh := Lib.hid (g_short 5 hEA (by omega))
      have HEA := Lib.hid hEA
      have HEB := Lib.hid hEB
      have HBA := Lib.hid hBA
      have HBB := Lib.hid hBB
      have HKT := Lib.hid (HKW.out.trans KT)
      clear KT hEA hEB hBA hBB HKW
      refine HSh.out.mono ?_
      rintro E1 S1 ⟨sa, sk, sc, rfl, hSS, hK, -⟩
      obtain rfl : sk = 6 := hSS.1.symm.trans gA_short
      have KB := kept_al S1 (.cells #[.int .i64 5, .slice sa 6 sc] 24)
      have HEA1 := Lib.hid (HEA.out.kept (hK.trans KB))
      have HEB1 := Lib.hid (HEB.out.kept (hK.trans KB))
      have HBA1 := Lib.hid ((hK.trans KB).only.heap HBA.out (by simp))
      have HBB1 := Lib.hid ((hK.trans KB).only.heap HBB.out (by simp))
      have HBS1 := Lib.hid (heap_alloc_new S1 (.cells #[.int .i64 5, .slice sa 6 sc] 24))
      have HK1' := Lib.hid (HKT.out.trans (hK.trans KB))
      clear hSS hK KB HEA HEB HBA HBB HKT HSh
      go_wp2_with fail
      generalize World.alloc S1 _ = Z0 at *
      have HGd := Lib.hid (g_good (w := Z0) 0 (slE_none Z0) (by omega))
      rw [gE_good] at HGd
      refine HGd.out.mono ?_
      rintro E2 Z1 ⟨rfl, hK⟩
      replace HEA1 := Lib.hid (HEA1.out.kept hK)
      replace HEB1 := Lib.hid (HEB1.out.kept hK)
      replace HBA1 := Lib.hid (hK.only.heap HBA1.out (by simp))
      replace HBB1 := Lib.hid (hK.only.heap HBB1.out (by simp))
      replace HBS1 := Lib.hid (hK.only.heap HBS1.out (by simp))
      replace HK1' := Lib.hid (HK1'.out.trans hK)
      clear hK HGd
      have c0 := at_cell HBA1.out 0 _ rfl
      have c1 := at_cell HBA1.out 1 _ rfl
      have HC := Lib.hid (g_cycle 5 HEA1.out (by omega))
      rw [gA_cycle] at HC
      go_wp2_with fail
      refine HC.out.mono ?_
      rintro E3 Z2 ⟨a2, k2, q2, rfl, hS, hK, -, -⟩
      obtain rfl : 2 = k2 := hS.1
      replace HEA1 := Lib.hid (HEA1.out.kept hK)
      replace HEB1 := Lib.hid (HEB1.out.kept hK)
      replace HBA1 := Lib.hid (hK.only.heap HBA1.out (by simp))
      replace HBB1 := Lib.hid (hK.only.heap HBB1.out (by simp))
      replace HBS1 := Lib.hid (hK.only.heap HBS1.out (by simp))
      replace HK1' := Lib.hid (HK1'.out.trans hK)
      have HS := Lib.hid hS
      clear hS hK HC c0 c1
      go_wp2_with fail
      have hK := kept_al Z2 (.cells (([3, 4] : List Int).map (Value.int .i64)).toArray 3)
      have HI := Lib.hid (ints_law (hK.sl HS.out) (sl_lit .i64 Z2 3 (0, 0) [3, 4] 2 rfl (by unfold maxLen; omega)) (by omega) (by omega))
      replace HEA1 := Lib.hid (HEA1.out.kept hK)
      replace HEB1 := Lib.hid (HEB1.out.kept hK)
      replace HBA1 := Lib.hid (hK.only.heap HBA1.out (by simp))
      replace HBB1 := Lib.hid (hK.only.heap HBB1.out (by simp))
      replace HBS1 := Lib.hid (hK.only.heap HBS1.out (by simp))
      replace HK1' := Lib.hid (HK1'.out.trans hK)
      clear hK HS
      refine HI.out.mono ?_
      rintro E Z3 ⟨rfl, hD⟩
      have hK : Kept _ Z3 := (Kept.refl _).dr hD
      replace HEA1 := Lib.hid (HEA1.out.kept hK)
      replace HEB1 := Lib.hid (HEB1.out.kept hK)
      replace HBA1 := Lib.hid (hK.only.heap HBA1.out (by simp))
      replace HBB1 := Lib.hid (hK.only.heap HBB1.out (by simp))
      replace HBS1 := Lib.hid (hK.only.heap HBS1.out (by simp))
      replace HK1' := Lib.hid (HK1'.out.trans hK)
      clear hK hD HI
      have c0 := at_cell HBB1.out 0 _ rfl
      have c1 := at_cell HBB1.out 1 _ rfl
      have HC := Lib.hid (g_cycle 4 HEB1.out (by omega))
      rw [gB_cycle] at HC
      go_wp2_with fail
      refine HC.out.mono ?_
      rintro E3 Z4 ⟨a2, k2, q2, rfl, hS, hK, -, -⟩
      obtain rfl : 2 = k2 := hS.1
      replace HEA1 := Lib.hid (HEA1.out.kept hK)
      replace HEB1 := Lib.hid (HEB1.out.kept hK)
      replace HBA1 := Lib.hid (hK.only.heap HBA1.out (by simp))
      replace HBB1 := Lib.hid (hK.only.heap HBB1.out (by simp))
      replace HBS1 := Lib.hid (hK.only.heap HBS1.out (by simp))
      replace HK1' := Lib.hid (HK1'.out.trans hK)
      have HS := Lib.hid hS
      clear hS hK HC c0 c1
      go_wp2_with fail
      have hK := kept_al Z4 (.cells (([0, 2] : List Int).map (Value.int .i64)).toArray 3)
      have HI := Lib.hid (ints_law (hK.sl HS.out) (sl_lit .i64 Z4 3 (0, 0) [0, 2] 2 rfl (by unfold maxLen; omega)) (by omega) (by omega))
      replace HEA1 := Lib.hid (HEA1.out.kept hK)
      replace HEB1 := Lib.hid (HEB1.out.kept hK)
      replace HBA1 := Lib.hid (hK.only.heap HBA1.out (by simp))
      replace HBB1 := Lib.hid (hK.only.heap HBB1.out (by simp))
      replace HBS1 := Lib.hid (hK.only.heap HBS1.out (by simp))
      replace HK1' := Lib.hid (HK1'.out.trans hK)
      clear hK HS
      refine HI.out.mono ?_
      rintro E Z5 ⟨rfl, hD⟩
      have hK : Kept _ Z5 := (Kept.refl _).dr hD
      replace HEA1 := Lib.hid (HEA1.out.kept hK)
      replace HEB1 := Lib.hid (HEB1.out.kept hK)
      replace HBA1 := Lib.hid (hK.only.heap HBA1.out (by simp))
      replace HBB1 := Lib.hid (hK.only.heap HBB1.out (by simp))
      replace HBS1 := Lib.hid (hK.only.heap HBS1.out (by simp))
      replace HK1' := Lib.hid (HK1'.out.trans hK)
      clear hK hD HI
      have c0 := at_cell HBA1.out 0 _ rfl
      have c1 := at_cell HBA1.out 1 _ rfl
      have HC := Lib.hid (g_ahead 5 3 HEA1.out (by omega))
      rw [gA_ahead] at HC
      go_wp2_with fail
      refine HC.out.mono ?_
      rintro E3 Z6 ⟨a2, k2, q2, rfl, hS, hK, -, -⟩
      obtain rfl : 2 = k2 := hS.1
      replace HEA1 := Lib.hid (HEA1.out.kept hK)
      replace HEB1 := Lib.hid (HEB1.out.kept hK)
      replace HBA1 := Lib.hid (hK.only.heap HBA1.out (by simp))
      replace HBB1 := Lib.hid (hK.only.heap HBB1.out (by simp))
      replace HBS1 := Lib.hid (hK.only.heap HBS1.out (by simp))
      replace HK1' := Lib.hid (HK1'.out.trans hK)
      have HS := Lib.hid hS
      clear hS hK HC c0 c1
      go_wp2_with fail
      have hK := kept_al Z6 (.cells (([2, 4] : List Int).map (Value.int .i64)).toArray 3)
      have HI := Lib.hid (ints_law (hK.sl HS.out) (sl_lit .i64 Z6 3 (0, 0) [2, 4] 2 rfl (by unfold maxLen; omega)) (by omega) (by omega))
      replace HEA1 := Lib.hid (HEA1.out.kept hK)
      replace HEB1 := Lib.hid (HEB1.out.kept hK)
      replace HBA1 := Lib.hid (hK.only.heap HBA1.out (by simp))
      replace HBB1 := Lib.hid (hK.only.heap HBB1.out (by simp))
      replace HBS1 := Lib.hid (hK.only.heap HBS1.out (by simp))
      replace HK1' := Lib.hid (HK1'.out.trans hK)
      clear hK HS
      refine HI.out.mono ?_
      rintro E Z7 ⟨rfl, hD⟩
      have hK : Kept _ Z7 := (Kept.refl _).dr hD
      replace HEA1 := Lib.hid (HEA1.out.kept hK)
      replace HEB1 := Lib.hid (HEB1.out.kept hK)
      replace HBA1 := Lib.hid (hK.only.heap HBA1.out (by simp))
      replace HBB1 := Lib.hid (hK.only.heap HBB1.out (by simp))
      replace HBS1 := Lib.hid (hK.only.heap HBS1.out (by simp))
      replace HK1' := Lib.hid (HK1'.out.trans hK)
      clear hK hD HI
      have c0 := at_cell HBA1.out 0 _ rfl
      have c1 := at_cell HBA1.out 1 _ rfl
      have HC := Lib.hid (g_behind 5 2 HEA1.out (by omega))
      rw [gA_behind] at HC
      go_wp2_with fail
      refine HC.out.mono ?_
      rintro E3 Z8 ⟨a2, k2, q2, rfl, hS, hK, -, -⟩
      obtain rfl : 2 = k2 := hS.1
      replace HEA1 := Lib.hid (HEA1.out.kept hK)
      replace HEB1 := Lib.hid (HEB1.out.kept hK)
      replace HBA1 := Lib.hid (hK.only.heap HBA1.out (by simp))
      replace HBB1 := Lib.hid (hK.only.heap HBB1.out (by simp))
      replace HBS1 := Lib.hid (hK.only.heap HBS1.out (by simp))
      replace HK1' := Lib.hid (HK1'.out.trans hK)
      have HS := Lib.hid hS
      clear hS hK HC c0 c1
      go_wp2_with fail
      have hK := kept_al Z8 (.cells (([0, 3] : List Int).map (Value.int .i64)).toArray 3)
      have HI := Lib.hid (ints_law (hK.sl HS.out) (sl_lit .i64 Z8 3 (0, 0) [0, 3] 2 rfl (by unfold maxLen; omega)) (by omega) (by omega))
      replace HEA1 := Lib.hid (HEA1.out.kept hK)
      replace HEB1 := Lib.hid (HEB1.out.kept hK)
      replace HBA1 := Lib.hid (hK.only.heap HBA1.out (by simp))
      replace HBB1 := Lib.hid (hK.only.heap HBB1.out (by simp))
      replace HBS1 := Lib.hid (hK.only.heap HBS1.out (by simp))
      replace HK1' := Lib.hid (HK1'.out.trans hK)
      clear hK HS
      refine HI.out.mono ?_
      rintro E Z9 ⟨rfl, hD⟩
      have hK : Kept _ Z9 := (Kept.refl _).dr hD
      replace HEA1 := Lib.hid (HEA1.out.kept hK)
      replace HEB1 := Lib.hid (HEB1.out.kept hK)
      replace HBA1 := Lib.hid (hK.only.heap HBA1.out (by simp))
      replace HBB1 := Lib.hid (hK.only.heap HBB1.out (by simp))
      replace HBS1 := Lib.hid (hK.only.heap HBS1.out (by simp))
      replace HK1' := Lib.hid (HK1'.out.trans hK)
      clear hK hD HI
      have c0 := at_cell HBA1.out 0 _ rfl
      have c1 := at_cell HBA1.out 1 _ rfl
      have HC := Lib.hid (g_reach 5 0 HEA1.out (by omega))
      rw [gA_reach0] at HC
      go_wp2_with fail
      refine HC.out.mono ?_
      rintro E3 Z10 ⟨a2, k2, q2, rfl, hS, hK, -, -⟩
      obtain rfl : 5 = k2 := hS.1
      replace HEA1 := Lib.hid (HEA1.out.kept hK)
      replace HEB1 := Lib.hid (HEB1.out.kept hK)
      replace HBA1 := Lib.hid (hK.only.heap HBA1.out (by simp))
      replace HBB1 := Lib.hid (hK.only.heap HBB1.out (by simp))
      replace HBS1 := Lib.hid (hK.only.heap HBS1.out (by simp))
      replace HK1' := Lib.hid (HK1'.out.trans hK)
      have HS := Lib.hid hS
      clear hS hK HC c0 c1
      go_wp2_with fail
      have hK := kept_al Z10 (.cells (([0, 1, 2, 3, 4] : List Int).map (Value.int .i64)).toArray 3)
      have HI := Lib.hid (ints_law (hK.sl HS.out) (sl_lit .i64 Z10 3 (0, 0) [0, 1, 2, 3, 4] 5 rfl (by unfold maxLen; omega)) (by omega) (by omega))
      replace HEA1 := Lib.hid (HEA1.out.kept hK)
      replace HEB1 := Lib.hid (HEB1.out.kept hK)
      replace HBA1 := Lib.hid (hK.only.heap HBA1.out (by simp))
      replace HBB1 := Lib.hid (hK.only.heap HBB1.out (by simp))
      replace HBS1 := Lib.hid (hK.only.heap HBS1.out (by simp))
      replace HK1' := Lib.hid (HK1'.out.trans hK)
      clear hK HS
      refine HI.out.mono ?_
      rintro E Z11 ⟨rfl, hD⟩
      have hK : Kept _ Z11 := (Kept.refl _).dr hD
      replace HEA1 := Lib.hid (HEA1.out.kept hK)
      replace HEB1 := Lib.hid (HEB1.out.kept hK)
      replace HBA1 := Lib.hid (hK.only.heap HBA1.out (by simp))
      replace HBB1 := Lib.hid (hK.only.heap HBB1.out (by simp))
      replace HBS1 := Lib.hid (hK.only.heap HBS1.out (by simp))
      replace HK1' := Lib.hid (HK1'.out.trans hK)
      clear hK hD HI
      have c0 := at_cell HBA1.out 0 _ rfl
      have c1 := at_cell HBA1.out 1 _ rfl
      have HC := Lib.hid (g_reach 5 3 HEA1.out (by omega))
      rw [gA_reach3] at HC
      go_wp2_with fail
      refine HC.out.mono ?_
      rintro E3 Z12 ⟨a2, k2, q2, rfl, hS, hK, -, -⟩
      obtain rfl : 2 = k2 := hS.1
      replace HEA1 := Lib.hid (HEA1.out.kept hK)
      replace HEB1 := Lib.hid (HEB1.out.kept hK)
      replace HBA1 := Lib.hid (hK.only.heap HBA1.out (by simp))
      replace HBB1 := Lib.hid (hK.only.heap HBB1.out (by simp))
      replace HBS1 := Lib.hid (hK.only.heap HBS1.out (by simp))
      replace HK1' := Lib.hid (HK1'.out.trans hK)
      have HS := Lib.hid hS
      clear hS hK HC c0 c1
      go_wp2_with fail
      have hK := kept_al Z12 (.cells (([3, 4] : List Int).map (Value.int .i64)).toArray 3)
      have HI := Lib.hid (ints_law (hK.sl HS.out) (sl_lit .i64 Z12 3 (0, 0) [3, 4] 2 rfl (by unfold maxLen; omega)) (by omega) (by omega))
      replace HEA1 := Lib.hid (HEA1.out.kept hK)
      replace HEB1 := Lib.hid (HEB1.out.kept hK)
      replace HBA1 := Lib.hid (hK.only.heap HBA1.out (by simp))
      replace HBB1 := Lib.hid (hK.only.heap HBB1.out (by simp))
      replace HBS1 := Lib.hid (hK.only.heap HBS1.out (by simp))
      replace HK1' := Lib.hid (HK1'.out.trans hK)
      clear hK HS
      refine HI.out.mono ?_
      rintro E Z13 ⟨rfl, hD⟩
      have hK : Kept _ Z13 := (Kept.refl _).dr hD
      replace HEA1 := Lib.hid (HEA1.out.kept hK)
      replace HEB1 := Lib.hid (HEB1.out.kept hK)
      replace HBA1 := Lib.hid (hK.only.heap HBA1.out (by simp))
      replace HBB1 := Lib.hid (hK.only.heap HBB1.out (by simp))
      replace HBS1 := Lib.hid (hK.only.heap HBS1.out (by simp))
      replace HK1' := Lib.hid (HK1'.out.trans hK)
      clear hK hD HI
      have c0 := at_cell HBA1.out 0 _ rfl
      have c1 := at_cell HBA1.out 1 _ rfl
      have HC := Lib.hid (g_ahead 5 5 HEA1.out (by omega))
      rw [gA_ahead5] at HC
      go_wp2_with fail
      refine HC.out.mono ?_
      rintro E3 Z14 ⟨a2, k2, q2, rfl, hS, hK, -, -⟩
      obtain rfl : 0 = k2 := hS.1
      replace HEA1 := Lib.hid (HEA1.out.kept hK)
      replace HEB1 := Lib.hid (HEB1.out.kept hK)
      replace HBA1 := Lib.hid (hK.only.heap HBA1.out (by simp))
      replace HBB1 := Lib.hid (hK.only.heap HBB1.out (by simp))
      replace HBS1 := Lib.hid (hK.only.heap HBS1.out (by simp))
      replace HK1' := Lib.hid (HK1'.out.trans hK)
      have HS := Lib.hid hS
      clear hS hK HC c0 c1
      have H3 := Lib.hid (g_three Z14)
      go_wp2_with fail
      refine H3.out.mono ?_
      rintro E3 Z15 ⟨a3, rfl, hE3, hK⟩
      replace HEA1 := Lib.hid (HEA1.out.kept hK)
      replace HEB1 := Lib.hid (HEB1.out.kept hK)
      replace HBA1 := Lib.hid (hK.only.heap HBA1.out (by simp))
      replace HBB1 := Lib.hid (hK.only.heap HBB1.out (by simp))
      replace HBS1 := Lib.hid (hK.only.heap HBS1.out (by simp))
      replace HK1' := Lib.hid (HK1'.out.trans hK)
      have HC := Lib.hid (g_cycle 3 hE3 (by omega))
      rw [show cycleL 3 T3 = [] from t3_cycle] at HC
      clear hE3 hK H3
      go_wp2_with fail
      refine HC.out.mono ?_
      rintro E3 Z16 ⟨a2, k2, q2, rfl, hS, hK, -, -⟩
      obtain rfl : 0 = k2 := hS.1
      replace HEA1 := Lib.hid (HEA1.out.kept hK)
      replace HEB1 := Lib.hid (HEB1.out.kept hK)
      replace HBA1 := Lib.hid (hK.only.heap HBA1.out (by simp))
      replace HBB1 := Lib.hid (hK.only.heap HBB1.out (by simp))
      replace HBS1 := Lib.hid (hK.only.heap HBS1.out (by simp))
      replace HK1' := Lib.hid (HK1'.out.trans hK)
      clear hS hK HC
      have c0 := at_cell HBS1.out 0 _ rfl
      have c1 := at_cell HBS1.out 1 _ rfl
      go_wp2_with fail
      go_ret
      exact ⟨rfl, HK1'.out⟩
end Go.Proofs.Ytboohafebkkdbaa
