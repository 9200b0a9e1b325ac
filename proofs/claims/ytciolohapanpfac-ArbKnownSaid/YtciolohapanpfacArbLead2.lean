/- The walks of arb's plain functions and of the document's own, second part. -/
import Derived.Test.YtciolohapanpfacArbLead
set_option linter.unusedVariables false
set_option linter.unusedSimpArgs false
namespace Go.Proofs.Ytciolohapanpfac
open Go.RowKit
theorem four_set {w : World} {p : Nat} {t : TypeId} {m : Nat × Nat} {v0 v1 v2 v3 : Value} (h : w.heap[p]? = some (.cells #[v0, v1, v2, v3] t m)) (u0 u1 u2 u3 : Value) :
    ((((w.setCell ⟨p, 0, none⟩ u0).setCell ⟨p, 1, none⟩ u1).setCell ⟨p, 2, none⟩ u2).setCell ⟨p, 3, none⟩ u3).heap[p]? = some (.cells #[u0, u1, u2, u3] t m) :=
  at_set (at_set (at_set (at_set h 0 u0) 1 u1) 2 u2) 3 u3
theorem four_cells {w : World} {p : Nat} {t : TypeId} {m : Nat × Nat} {v0 v1 v2 v3 : Value} (h : w.heap[p]? = some (.cells #[v0, v1, v2, v3] t m)) :
    w.cell? ⟨p, 0, none⟩ = some v0 ∧ w.cell? ⟨p, 1, none⟩ = some v1 ∧ w.cell? ⟨p, 2, none⟩ = some v2 ∧ w.cell? ⟨p, 3, none⟩ = some v3 := ⟨at_cell h 0 _ rfl, at_cell h 1 _ rfl, at_cell h 2 _ rfl, at_cell h 3 _ rfl⟩
theorem two_new (w : World) (a b : Obj) : ((w.alloc a).alloc b).heap[w.heap.size + 1]? = some b := by
  have := heap_alloc_new (w.alloc a) b
  simpa using this
set_option maxHeartbeats 1000000 in
theorem arb_alone (x : AS) (who ep fl : Int) (w : World) : Calls Try.prog 16 #[x.v, .int .i64 who, .int .i64 ep, .int .i64 fl] w fun e w' => e = .returned (pairV (turnF x who ep fl true)) ∧ Kept w w' := by
  have HT := Lib.hid (fun W => arb_turn x who ep fl true W)
  generalize turnF x who ep fl true = r at *
  obtain ⟨⟨e, h, s, f⟩, ok⟩ := r
  obtain ⟨e0, h0, s0, f0⟩ := x
  dsimp only [AS.v, pairV] at *
  go_enter Try.func16, Try.ntmps16
  go_wp2_with fail
  have K1 : Kept w ((w.alloc (.cells #[.int .i64 e0, .int .i64 h0, .bool s0, .int .i64 f0] 26)).alloc (.cells #[.int .i64 0, .int .i64 0, .bool false, .int .i64 0] 26)) := by (unfold Kept; repeat (first | exact Below.refl _ _ | assumption | (refine Below.alloc ?_ (by simp) _) | (refine Below.setCell ?_ (by simp) _) | (refine Below.drew ?_) | (refine below_drewN ?_ _)))
  have hq := two_new w (.cells #[.int .i64 e0, .int .i64 h0, .bool s0, .int .i64 f0] 26) (.cells #[.int .i64 0, .int .i64 0, .bool false, .int .i64 0] 26)
  refine (HT.out _).mono ?_
  rintro e1 w1 ⟨rfl, K⟩
  have K2 := K1.trans K
  have hq1 := K.only.heap hq (by simp)
  obtain ⟨d0, d1, d2, d3⟩ := four_cells (four_set hq1 (.int .i64 e) (.int .i64 h) (.bool s) (.int .i64 f))
  obtain ⟨c0, c1, c2, c3⟩ := four_cells hq1
  have g0 := one_free hq1 0
  have g1 := one_free hq1 1
  have g2 := one_free hq1 2
  have g3 := one_free hq1 3
  clear K1 K hq hq1
  go_wp2
  refine bodyPost_ret (v := .tuple #[.agg #[.int .i64 e, .int .i64 h, .bool s, .int .i64 f], .bool ok]) (by simp [results, Try.results16, go_sem, d0, d1, d2, d3]) rfl ⟨rfl, ?_⟩
  (unfold Kept; repeat (first | exact Below.refl _ _ | assumption | (refine Below.alloc ?_ (by simp) _) | (refine Below.setCell ?_ (by simp) _) | (refine Below.drew ?_) | (refine below_drewN ?_ _)))
set_option maxHeartbeats 1000000 in
theorem arb_both (x : AS) (who ep fl : Int) (w : World) : Calls Try.prog 18 #[x.v, .int .i64 who, .int .i64 ep, .int .i64 fl] w fun e w' => e = .returned (pairV (turnF x who ep fl false)) ∧ Kept w w' := by
  have HT := Lib.hid (fun W => arb_turn x who ep fl false W)
  generalize turnF x who ep fl false = r at *
  obtain ⟨⟨e, h, s, f⟩, ok⟩ := r
  obtain ⟨e0, h0, s0, f0⟩ := x
  dsimp only [AS.v, pairV] at *
  go_enter Try.func18, Try.ntmps18
  go_wp2_with fail
  have K1 : Kept w ((w.alloc (.cells #[.int .i64 e0, .int .i64 h0, .bool s0, .int .i64 f0] 26)).alloc (.cells #[.int .i64 0, .int .i64 0, .bool false, .int .i64 0] 26)) := by (unfold Kept; repeat (first | exact Below.refl _ _ | assumption | (refine Below.alloc ?_ (by simp) _) | (refine Below.setCell ?_ (by simp) _) | (refine Below.drew ?_) | (refine below_drewN ?_ _)))
  have hq := two_new w (.cells #[.int .i64 e0, .int .i64 h0, .bool s0, .int .i64 f0] 26) (.cells #[.int .i64 0, .int .i64 0, .bool false, .int .i64 0] 26)
  refine (HT.out _).mono ?_
  rintro e1 w1 ⟨rfl, K⟩
  have K2 := K1.trans K
  have hq1 := K.only.heap hq (by simp)
  obtain ⟨d0, d1, d2, d3⟩ := four_cells (four_set hq1 (.int .i64 e) (.int .i64 h) (.bool s) (.int .i64 f))
  obtain ⟨c0, c1, c2, c3⟩ := four_cells hq1
  have g0 := one_free hq1 0
  have g1 := one_free hq1 1
  have g2 := one_free hq1 2
  have g3 := one_free hq1 3
  clear K1 K hq hq1
  go_wp2
  refine bodyPost_ret (v := .tuple #[.agg #[.int .i64 e, .int .i64 h, .bool s, .int .i64 f], .bool ok]) (by simp [results, Try.results18, go_sem, d0, d1, d2, d3]) rfl ⟨rfl, ?_⟩
  (unfold Kept; repeat (first | exact Below.refl _ _ | assumption | (refine Below.alloc ?_ (by simp) _) | (refine Below.setCell ?_ (by simp) _) | (refine Below.drew ?_) | (refine below_drewN ?_ _)))
end Go.Proofs.Ytciolohapanpfac
