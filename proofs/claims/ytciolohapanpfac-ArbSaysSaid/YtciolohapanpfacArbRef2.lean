/- The document's own answer of arb, second part. -/
import Derived.Test.YtciolohapanpfacArbRef
set_option linter.unusedVariables false
set_option linter.unusedSimpArgs false
namespace Go.Proofs.Ytciolohapanpfac
open Go.RowKit
set_option maxHeartbeats 1000000 in
theorem ref_alone (x : AS) (who ep fl : Int) (w : World) : Calls Try.prog 17 #[x.v, .int .i64 who, .int .i64 ep, .int .i64 fl] w fun e w' => e = .returned (pairV (turnF x who ep fl true)) ∧ Kept w w' := by
  have HT := Lib.hid (fun W => ref_turn x who ep fl true W)
  generalize turnF x who ep fl true = r at *
  obtain ⟨⟨e, h, s, f⟩, ok⟩ := r
  obtain ⟨e0, h0, s0, f0⟩ := x
  dsimp only [AS.v, pairV] at *
  go_enter Try.func17, Try.ntmps17
  go_wp2_with fail
  have K1 : Kept w ((w.alloc (.cells #[.int .i64 e0, .int .i64 h0, .bool s0, .int .i64 f0] 34)).alloc (.cells #[.int .i64 0, .int .i64 0, .bool false, .int .i64 0] 34)) := by (unfold Kept; repeat (first | exact Below.refl _ _ | assumption | (refine Below.alloc ?_ (by simp) _) | (refine Below.setCell ?_ (by simp) _) | (refine Below.drew ?_) | (refine below_drewN ?_ _)))
  have hq := two_new w (.cells #[.int .i64 e0, .int .i64 h0, .bool s0, .int .i64 f0] 34) (.cells #[.int .i64 0, .int .i64 0, .bool false, .int .i64 0] 34)
  refine (HT.out _).mono ?_
  rintro e1 w1 ⟨rfl, K⟩
  have K2 := K1.trans K
  have hq1 := K.only.heap hq (by simp)
  obtain ⟨d0, d1, d2, d3⟩ := four_cells (four_set hq1 (.int .i64 e) (.int .i64 h) (.bool s) (.int .i64 f))
  obtain ⟨c0, c1, c2, c3⟩ := four_cells hq1
  have g0 := one_free hq1 0
  have g1 := one_free hq1 1
  have g2 := one_free hq1 2
  have g3 := one_free hq1 3
  clear K1 K hq hq1
  go_wp2
  refine bodyPost_ret (v := .tuple #[.agg #[.int .i64 e, .int .i64 h, .bool s, .int .i64 f], .bool ok]) (by simp [results, Try.results17, go_sem, d0, d1, d2, d3]) rfl ⟨rfl, ?_⟩
  (unfold Kept; repeat (first | exact Below.refl _ _ | assumption | (refine Below.alloc ?_ (by simp) _) | (refine Below.setCell ?_ (by simp) _) | (refine Below.drew ?_) | (refine below_drewN ?_ _)))
set_option maxHeartbeats 1000000 in
theorem ref_both (x : AS) (who ep fl : Int) (w : World) : Calls Try.prog 19 #[x.v, .int .i64 who, .int .i64 ep, .int .i64 fl] w fun e w' => e = .returned (pairV (turnF x who ep fl false)) ∧ Kept w w' := by
  have HT := Lib.hid (fun W => ref_turn x who ep fl false W)
  generalize turnF x who ep fl false = r at *
  obtain ⟨⟨e, h, s, f⟩, ok⟩ := r
  obtain ⟨e0, h0, s0, f0⟩ := x
  dsimp only [AS.v, pairV] at *
  go_enter Try.func19, Try.ntmps19
  go_wp2_with fail
  have K1 : Kept w ((w.alloc (.cells #[.int .i64 e0, .int .i64 h0, .bool s0, .int .i64 f0] 34)).alloc (.cells #[.int .i64 0, .int .i64 0, .bool false, .int .i64 0] 34)) := by (unfold Kept; repeat (first | exact Below.refl _ _ | assumption | (refine Below.alloc ?_ (by simp) _) | (refine Below.setCell ?_ (by simp) _) | (refine Below.drew ?_) | (refine below_drewN ?_ _)))
  have hq := two_new w (.cells #[.int .i64 e0, .int .i64 h0, .bool s0, .int .i64 f0] 34) (.cells #[.int .i64 0, .int .i64 0, .bool false, .int .i64 0] 34)
  refine (HT.out _).mono ?_
  rintro e1 w1 ⟨rfl, K⟩
  have K2 := K1.trans K
  have hq1 := K.only.heap hq (by simp)
  obtain ⟨d0, d1, d2, d3⟩ := four_cells (four_set hq1 (.int .i64 e) (.int .i64 h) (.bool s) (.int .i64 f))
  obtain ⟨c0, c1, c2, c3⟩ := four_cells hq1
  have g0 := one_free hq1 0
  have g1 := one_free hq1 1
  have g2 := one_free hq1 2
  have g3 := one_free hq1 3
  clear K1 K hq hq1
  go_wp2
  refine bodyPost_ret (v := .tuple #[.agg #[.int .i64 e, .int .i64 h, .bool s, .int .i64 f], .bool ok]) (by simp [results, Try.results19, go_sem, d0, d1, d2, d3]) rfl ⟨rfl, ?_⟩
  (unfold Kept; repeat (first | exact Below.refl _ _ | assumption | (refine Below.alloc ?_ (by simp) _) | (refine Below.setCell ?_ (by simp) _) | (refine Below.drew ?_) | (refine below_drewN ?_ _)))
set_option maxHeartbeats 1000000 in
theorem own_eq (x : AS) (w : World) : Calls Try.prog 15 #[x.v] w fun e w' => e = .returned x.v ∧ Kept w w' := by
  obtain ⟨e, h, s, f⟩ := x
  dsimp only [AS.v] at *
  go_enter Try.func15, Try.ntmps15
  go_wp2
  exact bodyPost_ret (v := .agg #[.int .i64 e, .int .i64 h, .bool s, .int .i64 f]) (by simp [results, Try.results15, go_sem]) rfl ⟨rfl, by (unfold Kept; repeat (first | exact Below.refl _ _ | assumption | (refine Below.alloc ?_ (by simp) _) | (refine Below.setCell ?_ (by simp) _) | (refine Below.drew ?_) | (refine below_drewN ?_ _)))⟩
end Go.Proofs.Ytciolohapanpfac
