/- The laws' own at, table, awake (layer 23). -/
import Derived.Test.YtmkoabalakfehaaShipTake
import Derived.Deep.CutRange
import Derived.Deep.RegionHeld3
set_option linter.unusedVariables false
set_option linter.unusedSimpArgs false
namespace Go.Proofs.Ytmkoabalakfehaa
open Go.RowKit
theorem sh_at (e o v : Int) (w : World) (hv : e * 17592186044416 + o = v) (e0 : 0 ≤ e) (e1 : e < 524288) (o0 : 0 ≤ o) (o1 : o ≤ 17592186044415) :
    Calls Try.prog 13 #[.int .i64 e, .int .i64 o] w fun E w' => E = .returned (.int .u64 v) ∧ w = w' := by
  have HP := Lib.hid (stamp_pack e o w e0 e1 o0 o1)
  rw [hv] at HP
  clear hv
  go_enter Try.func13, Try.ntmps13
  go_wp2_with fail
  refine HP.out.mono ?_
  rintro E w' ⟨rfl, rfl⟩
  go_wp2
  go_ret
  exact ⟨rfl, rfl⟩
set_option maxHeartbeats 1000000 in
theorem sh_table (w : World) : Calls Try.prog 12 #[] w fun e w' => ∃ a, e = .returned (.agg #[.slice a 2 2, .int .i64 6]) ∧ Sl .u64 w' a 2 2 [17592186044416, 52776558133252] ∧ Kept w w' := by
  have K := (kept_al w (.cells #[.slice (some ⟨w.heap.size + 1, 0, none⟩) 2 2, .int .i64 6] 24)).trans (kept_al _ (.cells #[.int .u64 17592186044416, .int .u64 52776558133252] 41 (0, 0)))
  have hs : Sl .u64 ((w.alloc (.cells #[.slice (some ⟨w.heap.size + 1, 0, none⟩) 2 2, .int .i64 6] 24)).alloc (.cells #[.int .u64 17592186044416, .int .u64 52776558133252] 41 (0, 0))) (some ⟨w.heap.size + 1, 0, none⟩) 2 2 [17592186044416, 52776558133252] := by
    have h := sl_lit .u64 (w.alloc (.cells #[.slice (some ⟨w.heap.size + 1, 0, none⟩) 2 2, .int .i64 6] 24)) 41 (0, 0) [17592186044416, 52776558133252] 2 rfl (by unfold maxLen; omega)
    simpa using h
  go_enter Try.func12, Try.ntmps12
  go_wp2_with fail
  refine (sh_at 1 0 17592186044416 _ (by omega) (by omega) (by omega) (by omega) (by omega)).mono ?_
  rintro E w' ⟨rfl, rfl⟩
  go_wp2_with fail
  refine (sh_at 3 4 52776558133252 _ (by omega) (by omega) (by omega) (by omega) (by omega)).mono ?_
  rintro E w' ⟨rfl, rfl⟩
  go_wp2
  exact bodyPost_ret (v := .agg #[.slice (some ⟨w.heap.size + 1, 0, none⟩) 2 2, .int .i64 6]) (by simp [results, Try.results12, go_sem]) rfl ⟨_, rfl, hs, K⟩
/-- alike Ships, field by field -/
def svEq (a b c d a' b' c' d' : Int) : Bool := a == a' && (b == b' && (c == c' && d == d'))
theorem eqSV (a b c d a' b' c' d' : Int) (w : World) : (Op.equalIn 10000 29 (.agg #[.int .i64 a, .int .i64 b, .int .i64 c, .int .i64 d]) (.agg #[.int .i64 a', .int .i64 b', .int .i64 c', .int .i64 d'])).run Try.prog w = .ok (svEq a b c d a' b' c' d') w := by
  have hS : Try.prog.underlying 29 = some (.struct (Try.prog.fieldsOf 29)) := by kernel_rfl
  have hp : Try.prog.stoodInHeld 29 = false := by kernel_rfl
  rw [show (10000 : Nat) = 9999 + 1 from rfl, run_equalIn_agg w 9999 29 _ _ hS hp]
  unfold svEq
  simp only [Program.fieldsOf, Try.underlying29]
  go_simp
  by_cases h1 : a = a' <;> by_cases h2 : b = b' <;> by_cases h3 : c = c' <;> by_cases h4 : d = d' <;> simp [h1, h2, h3, h4]
theorem run_eqSV (a b c d a' b' c' d' : Int) (w : World) : (binOp .eql 29 (.agg #[.int .i64 a, .int .i64 b, .int .i64 c, .int .i64 d]) (.agg #[.int .i64 a', .int .i64 b', .int .i64 c', .int .i64 d'])).run Try.prog w = .ok (.bool (svEq a b c d a' b' c' d')) w := by
  rw [run_eql_struct, eqSV]; rfl
theorem run_neqSV (a b c d a' b' c' d' : Int) (w : World) : (binOp .neq 29 (.agg #[.int .i64 a, .int .i64 b, .int .i64 c, .int .i64 d]) (.agg #[.int .i64 a', .int .i64 b', .int .i64 c', .int .i64 d'])).run Try.prog w = .ok (.bool (!svEq a b c d a' b' c' d')) w := by
  rw [run_neq_struct, eqSV]; rfl
set_option maxRecDepth 100000 in
set_option maxHeartbeats 4000000 in
theorem awake23 (w : World) : Calls Try.prog 7 #[] w fun e w' => e = .returned (.bool true) ∧ Kept w w' := by
  have HE := run_eqSV
  have hEq : svEq 0 3 6 0 0 3 6 0 = true := by decide
  go_enter Try.func7, Try.ntmps7
  go_wp2_with fail
  refine (ship_new_yes 0 3 6 w (.inl rfl) (by omega) (by omega) (by omega) (by omega)).mono ?_
  rintro E w1 ⟨rfl, K1⟩
  obtain ⟨d0, d1, d2, d3⟩ := four_cells (heap_alloc_new w1 (.cells #[.int .i64 0, .int .i64 3, .int .i64 6, .int .i64 0] 29))
  have KB := K1.trans (kept_al w1 (.cells #[.int .i64 0, .int .i64 3, .int .i64 6, .int .i64 0] 29))
  unfold SV.v
  have k0 : (takeS ⟨0, 3, 6, 0⟩ (decide (GoodT [17592186044416, 52776558133252] 6)) (goodM ⟨2, 1, 0, 3, 5, 0, none, 0, 0, none, 0, 0, 0⟩ [] []) 6 ⟨2, 1, 0, 3, 5, 0, none, 0, 0, none, 0, 0, 0⟩ (meetI [17592186044416, 52776558133252] 6 [] 0)).1.who = 0 := by decide +kernel
  have k1 : (takeS ⟨0, 3, 6, 0⟩ (decide (GoodT [17592186044416, 52776558133252] 6)) (goodM ⟨2, 1, 0, 3, 5, 0, none, 0, 0, none, 0, 0, 0⟩ [] []) 6 ⟨2, 1, 0, 3, 5, 0, none, 0, 0, none, 0, 0, 0⟩ (meetI [17592186044416, 52776558133252] 6 [] 0)).1.ep = 3 := by decide +kernel
  have k2 : (takeS ⟨0, 3, 6, 0⟩ (decide (GoodT [17592186044416, 52776558133252] 6)) (goodM ⟨2, 1, 0, 3, 5, 0, none, 0, 0, none, 0, 0, 0⟩ [] []) 6 ⟨2, 1, 0, 3, 5, 0, none, 0, 0, none, 0, 0, 0⟩ (meetI [17592186044416, 52776558133252] 6 [] 0)).1.nx = 6 := by decide +kernel
  have k3 : (takeS ⟨0, 3, 6, 0⟩ (decide (GoodT [17592186044416, 52776558133252] 6)) (goodM ⟨2, 1, 0, 3, 5, 0, none, 0, 0, none, 0, 0, 0⟩ [] []) 6 ⟨2, 1, 0, 3, 5, 0, none, 0, 0, none, 0, 0, 0⟩ (meetI [17592186044416, 52776558133252] 6 [] 0)).1.ak = 5 := by decide +kernel
  have k4 : (takeS ⟨0, 3, 6, 0⟩ (decide (GoodT [17592186044416, 52776558133252] 6)) (goodM ⟨2, 1, 0, 3, 5, 0, none, 0, 0, none, 0, 0, 0⟩ [] []) 6 ⟨2, 1, 0, 3, 5, 0, none, 0, 0, none, 0, 0, 0⟩ (meetI [17592186044416, 52776558133252] 6 [] 0)).2 = 0 := by decide +kernel
  have HT := Lib.hid (fun V a (hS : Sl .u64 V a 2 2 [17592186044416, 52776558133252]) => ship_take ⟨0, 3, 6, 0⟩ a 2 2 [17592186044416, 52776558133252] 6 ⟨2, 1, 0, 3, 5, 0, none, 0, 0, none, 0, 0, 0⟩ [] [] V hS (isW_of_mem (by decide)) ⟨rfl, Nat.le_refl _, Nat.zero_le _, fun i l h => by cases h⟩ (sl_nil _ _) (fun i => by simp) (by decide))
  unfold SV.v MV.cs at HT
  rw [k4] at HT
  rw [k0, k1, k2, k3] at HT
  dsimp only at HT
  clear k0 k1 k2 k3 k4
  go_wp2_with fail
  generalize hW : w1.alloc (.cells #[.int .i64 0, .int .i64 3, .int .i64 6, .int .i64 0] 29) = W at *
  have HC : Hid (∀ V, Kept W V → V.cell? ⟨w1.heap.size, 0, none⟩ = some (.int .i64 0) ∧ V.cell? ⟨w1.heap.size, 1, none⟩ = some (.int .i64 3) ∧ V.cell? ⟨w1.heap.size, 2, none⟩ = some (.int .i64 6) ∧ V.cell? ⟨w1.heap.size, 3, none⟩ = some (.int .i64 0)) := fun V k => ⟨k.cel d0, k.cel d1, k.cel d2, k.cel d3⟩
  clear d0 d1 d2 d3 hW
  go_cut [3, 4] from 5 to 41 (fun p e wx => e = .int .i64 0 ∧ Kept W wx ∧ ∃ q, p = .pointer (some ⟨q, 0, none⟩) ∧ wx.cell? ⟨q, 0, none⟩ = some (.int .i64 0) ∧ wx.cell? ⟨q, 1, none⟩ = some (.int .i64 3) ∧ wx.cell? ⟨q, 2, none⟩ = some (.int .i64 6) ∧ wx.cell? ⟨q, 3, none⟩ = some (.int .i64 5))
  case first =>
    have KD : Kept W W.drew := (Kept.refl _).dr ⟨1, rfl⟩
    have gN0 : ∀ (V : World) (a b c d : Value), (V.alloc (.cells #[a, b, c, d] 29)).cell? ⟨V.heap.size, 0, none⟩ = some a := fun V a b c d => (four_cells (heap_alloc_new V _)).1
    have gN1 : ∀ (V : World) (a b c d : Value), (V.alloc (.cells #[a, b, c, d] 29)).cell? ⟨V.heap.size, 1, none⟩ = some b := fun V a b c d => (four_cells (heap_alloc_new V _)).2.1
    have gN2 : ∀ (V : World) (a b c d : Value), (V.alloc (.cells #[a, b, c, d] 29)).cell? ⟨V.heap.size, 2, none⟩ = some c := fun V a b c d => (four_cells (heap_alloc_new V _)).2.2.1
    have gN3 : ∀ (V : World) (a b c d : Value), (V.alloc (.cells #[a, b, c, d] 29)).cell? ⟨V.heap.size, 3, none⟩ = some d := fun V a b c d => (four_cells (heap_alloc_new V _)).2.2.2
    have gF : ∀ (V : World) (a b c d : Value) (j : Nat), (V.alloc (.cells #[a, b, c, d] 29)).frozen? ⟨V.heap.size, j, none⟩ = false := fun V a b c d j => one_free (heap_alloc_new V _) j
    go_region_held3 (fun Z => Z.cell? ⟨w1.heap.size, 0, none⟩ = some (.int .i64 0) ∧ Z.cell? ⟨w1.heap.size, 1, none⟩ = some (.int .i64 3) ∧ Z.cell? ⟨w1.heap.size, 2, none⟩ = some (.int .i64 6) ∧ Z.cell? ⟨w1.heap.size, 3, none⟩ = some (.int .i64 0)) (first | exact HC.out _ KD | exact HC.out _ (KD.trans (kept_al _ _)) | exact HC.out _ (KD.onl (only_set4 _ _ _ _ _ _) (by intro i hi; have := List.mem_singleton.1 hi; omega))) (first | (go_at_call 12; refine (sh_table _).mono ?_; rintro e V1 ⟨ta, rfl, hS, J⟩; have KE : Kept W V1 := (by first | exact KD.trans J | exact (KD.trans (kept_al _ _)).trans J); (first | (have hb : V1.heap[W.heap.size]? = some (.cells #[.int .i64 0, .int .i64 0, .int .i64 0, .int .i64 0] 29 (0, 0)) := J.only.heap (heap_alloc_new W.drew (.cells #[.int .i64 0, .int .i64 0, .int .i64 0, .int .i64 0] 29)) (by simp); have hbs : W.heap.size ≤ W.heap.size := Nat.le_refl _; have r0 : V1.cell? ⟨W.heap.size, 0, none⟩ = some (.int .i64 0) := at_cell hb 0 _ rfl; have f0 : V1.frozen? ⟨W.heap.size, 0, none⟩ = false := one_free hb 0; have r1 : V1.cell? ⟨W.heap.size, 1, none⟩ = some (.int .i64 0) := at_cell hb 1 _ rfl; have f1 : V1.frozen? ⟨W.heap.size, 1, none⟩ = false := one_free hb 1; have r2 : V1.cell? ⟨W.heap.size, 2, none⟩ = some (.int .i64 0) := at_cell hb 2 _ rfl; have f2 : V1.frozen? ⟨W.heap.size, 2, none⟩ = false := one_free hb 2; have r3 : V1.cell? ⟨W.heap.size, 3, none⟩ = some (.int .i64 0) := at_cell hb 3 _ rfl; have f3 : V1.frozen? ⟨W.heap.size, 3, none⟩ = false := one_free hb 3; have HBq := Lib.hid hb; clear hb) | skip); have HSt := Lib.hid hS; clear KD J hS; have KD := KE; clear KE) | (go_at_call 11; refine (HT.out _ _ (by first | exact HSt.out | exact (kept_al _ _).sl HSt.out)).mono ?_; rintro e V2 ⟨rfl, J⟩; have KE : Kept W V2 := (by first | exact KD.trans J | exact (KD.trans (kept_al _ _)).trans J); (first | (have hb := J.only.heap HBq.out (by simp); have r0 : V2.cell? ⟨W.heap.size, 0, none⟩ = some (.int .i64 0) := at_cell hb 0 _ rfl; have f0 : V2.frozen? ⟨W.heap.size, 0, none⟩ = false := one_free hb 0; have r1 : V2.cell? ⟨W.heap.size, 1, none⟩ = some (.int .i64 0) := at_cell hb 1 _ rfl; have f1 : V2.frozen? ⟨W.heap.size, 1, none⟩ = false := one_free hb 1; have r2 : V2.cell? ⟨W.heap.size, 2, none⟩ = some (.int .i64 0) := at_cell hb 2 _ rfl; have f2 : V2.frozen? ⟨W.heap.size, 2, none⟩ = false := one_free hb 2; have r3 : V2.cell? ⟨W.heap.size, 3, none⟩ = some (.int .i64 0) := at_cell hb 3 _ rfl; have f3 : V2.frozen? ⟨W.heap.size, 3, none⟩ = false := one_free hb 3; have HBz := Lib.hid hb; clear hb) | (have hb : V2.heap[V1.heap.size]? = some (.cells #[.int .i64 0, .int .i64 0, .int .i64 0, .int .i64 0] 29 (0, 0)) := J.only.heap (heap_alloc_new V1 (.cells #[.int .i64 0, .int .i64 0, .int .i64 0, .int .i64 0] 29)) (by simp); have hbs : W.heap.size ≤ V1.heap.size := KD.size; have r0 : V2.cell? ⟨V1.heap.size, 0, none⟩ = some (.int .i64 0) := at_cell hb 0 _ rfl; have f0 : V2.frozen? ⟨V1.heap.size, 0, none⟩ = false := one_free hb 0; have r1 : V2.cell? ⟨V1.heap.size, 1, none⟩ = some (.int .i64 0) := at_cell hb 1 _ rfl; have f1 : V2.frozen? ⟨V1.heap.size, 1, none⟩ = false := one_free hb 1; have r2 : V2.cell? ⟨V1.heap.size, 2, none⟩ = some (.int .i64 0) := at_cell hb 2 _ rfl; have f2 : V2.frozen? ⟨V1.heap.size, 2, none⟩ = false := one_free hb 2; have r3 : V2.cell? ⟨V1.heap.size, 3, none⟩ = some (.int .i64 0) := at_cell hb 3 _ rfl; have f3 : V2.frozen? ⟨V1.heap.size, 3, none⟩ = false := one_free hb 3; have HBz := Lib.hid hb; clear hb) | skip); clear KD J; have KD := KE; clear KE))
    all_goals (first | (go_wp2_with fail; done) | skip)
    all_goals (first | go_meet | (go_wp2_with fail; go_meet))
    · exact ⟨rfl, KD.trans (kept_al V2 _), V2.heap.size, rfl, four_cells (heap_alloc_new V2 _)⟩
    · exact ⟨rfl, KD.onl (only_set4 V2 V1.heap.size (.int .i64 0) (.int .i64 3) (.int .i64 6) (.int .i64 5)) (by intro i hi; have := List.mem_singleton.1 hi; omega), V1.heap.size, rfl, four_cells (four_set HBz.out (.int .i64 0) (.int .i64 3) (.int .i64 6) (.int .i64 5))⟩
    · exact ⟨rfl, KD.onl (only_set4 V2 W.heap.size (.int .i64 0) (.int .i64 3) (.int .i64 6) (.int .i64 5)) (by intro i hi; have := List.mem_singleton.1 hi; omega), W.heap.size, rfl, four_cells (four_set HBz.out (.int .i64 0) (.int .i64 3) (.int .i64 6) (.int .i64 5))⟩
  case rest =>
    obtain ⟨rfl, kk, q, rfl, e0, e1, e2, e3⟩ := hcut
    obtain ⟨d0, d1, d2, d3⟩ := HC.out _ kk
    generalize wc = w2 at *
    go_wp2_with fail
    refine (ship_done ⟨0, 3, 6, 5⟩ 6 w2).mono ?_
    rintro E w3 ⟨rfl, K3⟩
    go_wp2
    go_ret
    exact ⟨rfl, KB.trans (kk.trans K3)⟩
end Go.Proofs.Ytmkoabalakfehaa
