/- Graphs: are rows of numbers alike. -/
import Derived.Test.YtmejphlpcgochaaGr11
import Derived.Laws.StructEq
set_option linter.unusedVariables false
set_option linter.unusedSimpArgs false
namespace Go.Proofs.Ytmejphlpcgochaa
open Go.RowKit
theorem equalIn_ar (t : TypeId) (ht : Try.prog.underlying t = some (.array 2 3)) (a b c d : Int) (w : World) : (Op.equalIn 10000 t (.agg #[.int .i64 a, .int .i64 b]) (.agg #[.int .i64 c, .int .i64 d])).run Try.prog w = .ok (decide (a = c ∧ b = d)) w := by
  obtain ⟨i, hi, _⟩ := info_parts (P := Try.prog) (e := 3) (z := .int .i64 0) (size := 1) (bytes := 8) (by kernel_rfl)
  rw [show (10000 : Nat) = 9999 + 1 from rfl, run_equalIn_array w 9999 _ _ ht hi]
  have hc : Try.prog.cellsOf 3 = 1 := by kernel_rfl
  rw [hc, show List.range 2 = [0, 1] from rfl]
  simp only [Op.eqItems]
  go_simp
  by_cases h1 : a = c <;> by_cases h2 : b = d <;> simp [h1, h2]
def edEq (a b c d : Int) : Bool := decide (a = c ∧ b = d)
theorem run_neqAr (a b c d : Int) (w : World) : (binOp .neq 32 (.agg #[.int .i64 a, .int .i64 b]) (.agg #[.int .i64 c, .int .i64 d])).run Try.prog w = .ok (.bool (!edEq a b c d)) w := by
  rw [run_neq_struct, equalIn_ar _ Try.underlying32]; rfl
@[go_sem] theorem guardAr (op : BinOp) (x y : Operand) (xs ys : Array Value) (w : World) : (eqGuard op 32 x y (.agg xs) (.agg ys)).run Try.prog w = .ok () w := run_eqGuard_agg w op 32 x y xs ys (by kernel_rfl)
set_option maxRecDepth 100000 in
set_option maxHeartbeats 4000000 in
theorem ints_law {w : World} {a b : Option Addr} {n m c d : Nat} {A B : List Int} (hA : Sl .i64 w a n c A) (hB : Sl .i64 w b m d B) (hn : n ≤ 1000) (hm : m ≤ 1000) :
    Calls Try.prog 14 #[.slice a n c, .slice b m d] w fun e w' => e = .returned (.bool (A == B)) ∧ Dr w w' := by
  have hla := hA.1
  have hlb := hB.1
  have hnc := hA.2.1
  have hmd := hB.2.1
  have HA := Lib.hid hA
  have HB := Lib.hid hB
  clear hA hB
  by_cases hnm : n = m
  · subst hnm
    have ht : ((n : Int) != n) = false := by simp
    go_enter Try.func14, Try.ntmps14
    go_wp2_with fail
    go_loopw [5] (fun i wr => ∃ j : Nat, i = .int .i64 (j : Nat) ∧ j ≤ n ∧ Hid (Dr w wr) ∧ Hid (A.take j = B.take j)) (fun i _ => n - (intOf i).toNat)
    case atStart => exact ⟨0, rfl, by omega, Dr.refl w, rfl⟩
    case round =>
      obtain ⟨j, rfl, hj, HD, HE⟩ := hrel
      by_cases hlt : j < n
      · have hlt' : (j : Int) < n := by omega
        obtain ⟨ba, oa, x, rfl, p0, hx⟩ := (HD.out.sl HA.out).at j hlt
        obtain ⟨bb, ob, y, rfl, r0, hy⟩ := (HD.out.sl HB.out).at j hlt
        have hxa : A[j]? = some x := by rw [hx.out, List.getD_eq_getElem?_getD, List.getElem?_eq_getElem (by omega)]; rfl
        have hyb : B[j]? = some y := by rw [hy.out, List.getD_eq_getElem?_getD, List.getElem?_eq_getElem (by omega)]; rfl
        have hXY : Hid (A[j]? = some x ∧ B[j]? = some y) := ⟨hxa, hyb⟩
        clear hx hy hxa hyb
        by_cases hxy : x = y
        · have HE2 : Hid (A.take (j + 1) = B.take (j + 1)) := by
            unfold Hid
            rw [List.take_add_one, List.take_add_one, HE.out, hXY.out.1, hXY.out.2, hxy]
          subst hxy
          have b1 : (x != x) = false := by simp
          go_wp2_with fail
          go_quiet (fail)
          go_wp2_with fail
          go_roundw
          case rel => exact ⟨j + 1, by go_num, by omega, HD.out.trans ((Dr.refl _).drewN _), HE2.out⟩
          case measure => simp [intOf]; omega
        · have HF : Hid ((A == B) = false) := by
            unfold Hid
            rw [beq_eq_false_iff_ne]
            rintro rfl
            have := hXY.out.1.symm.trans hXY.out.2
            injection this with this
            exact hxy this
          have b1 : (x != y) = true := by simp [hxy]
          clear hxy
          go_wp2_with fail
          go_quiet (fail)
          go_wp2_with fail
          go_ret
          exact ⟨ret_bool HF.out.symm, HD.out.trans ((Dr.refl _).drewN _)⟩
      · have hge : (n : Int) ≤ j := by omega
        obtain rfl : j = n := by omega
        have HT : Hid ((A == B) = true) := by
          unfold Hid
          have := HE.out
          rw [List.take_of_length_le (by omega), List.take_of_length_le (by omega)] at this
          simp [this]
        go_wp2_with fail
        go_ret
        exact ⟨ret_bool HT.out.symm, HD.out⟩
  · have ht : ((n : Int) != m) = true := by simp; omega
    have HF : Hid ((A == B) = false) := by
      unfold Hid
      rw [beq_eq_false_iff_ne]
      rintro rfl
      omega
    go_enter Try.func14, Try.ntmps14
    go_wp2_with fail
    go_ret
    exact ⟨ret_bool HF.out.symm, Dr.refl w⟩
theorem slE_lit (w : World) (e : TypeId) (L : List Ed) (n : Nat) (hl : L.length = n) (hn : n ≤ 1000) : SlE (w.alloc (.cells (edVs L).toArray e)) (some ⟨w.heap.size, 0, none⟩) n n L := by
  refine ⟨hl, Nat.le_refl _, by unfold maxLen; omega, fun _ => ⟨_, _, rfl, by simp, fun j u hu => ?_⟩⟩
  rw [cell_of_row _ _ _ _ _ _ (heap_alloc_new w _), Nat.zero_add]
  simpa using hu
end Go.Proofs.Ytmejphlpcgochaa
