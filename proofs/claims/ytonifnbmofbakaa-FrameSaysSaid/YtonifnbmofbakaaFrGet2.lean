/- Get: a record that is whole, or whose sum is another. -/
import Derived.Test.YtonifnbmofbakaaFrGet
set_option linter.unusedVariables false
set_option linter.unusedSimpArgs false
namespace Go.Proofs.Ytonifnbmofbakaa
open Go.RowKit
set_option maxRecDepth 100000 in
set_option maxHeartbeats 2000000 in
/-- another sum -/
theorem fr_get_form (a : Option Addr) (n c N : Nat) (zs : List Int) (w : World) (hS : Sl .u8 w a n c zs) (hB : IsB zs) (hn2 : n ≤ 100000) (hN : rdN zs 4 = N) (hN2 : N ≤ 1024) (hlen : 16 + N ≤ n) (hbad : sumOf (zs.take 12 ++ (zs.take (16 + N)).drop 16) ≠ rdN ((zs.take 16).drop 12) 4) :
    Calls Try.prog 11 #[.slice a n c] w fun e w' => e = .returned (.tuple #[recV 0 none 0 0, .int .i64 0, .int .i64 2]) ∧ Kept w w' := by
  have K := (((Only.refl [] w).alloc (.cells #[.int .u64 0, .slice none 0 0] 30))).kept
  have hh := heap_alloc_new w (.cells #[.int .u64 0, .slice none 0 0] 30)
  have d0 := at_cell hh 0 _ rfl
  have d1 := at_cell hh 1 _ rfl
  have f0 := one_free hh 0
  have f1 := one_free hh 1
  have h4 : 4 ≤ (n : Int) := by omega
  have hnc := hS.2.1
  have hS1 := K.sl hS
  have x1 := fun W => run_cut_h elemB a n c .i64 4 (4 : Int) rfl (by omega) W
  have x2 := fun W => run_cut_h elemB a n c .i64 12 (12 : Int) rfl (by omega) W
  have x3 := fun W => run_cut_lh elemB a n c .i64 .i64 16 (16 + N) (16 : Int) (16 + (N : Int)) rfl (by push_cast; rfl) (by omega) (by omega) W
  have x4 := fun W => run_cut_lh elemB a n c .i64 .i64 12 16 (12 : Int) (16 : Int) rfl rfl (by omega) (by omega) W
  have HR := Lib.hid (fr_read a 4 c (zs.take 4) (w.alloc (.cells #[.int .u64 0, .slice none 0 0] 30)) (sl_take hS1 4 (by omega)) (isB_take hB 4) (by omega))
  rw [rdN_congr 4 (fun i hi => take_getD zs hi), hN] at HR
  have HD1 := Lib.hid (fun m => sum_of a 12 c (zs.take 12) ((w.alloc (.cells #[.int .u64 0, .slice none 0 0] 30)).drewN m) (((Kept.refl _).dr ((Dr.refl _).drewN m)).sl (sl_take hS1 12 (by omega))) (isB_take hB 12))
  obtain ⟨g1, g2, g3⟩ := sumOf_good (zs.take 12)
  have HD2 := Lib.hid (fun m => sum_on_yes (sumOf (zs.take 12)) (cutA a c 16 1) (16 + N - 16) (c - 16) ((zs.take (16 + N)).drop 16) ((w.alloc (.cells #[.int .u64 0, .slice none 0 0] 30)).drewN m) g2 g3 g1 (((Kept.refl _).dr ((Dr.refl _).drewN m)).sl (sl_cut hS1 16 (16 + N) (by omega) (by omega))) (isB_drop (isB_take hB _) _))
  rw [onV_sumOf] at HD2
  have HD3 := Lib.hid (fun m => fr_read (cutA a c 12 1) (16 - 12) (c - 12) ((zs.take 16).drop 12) ((w.alloc (.cells #[.int .u64 0, .slice none 0 0] 30)).drewN m) (((Kept.refl _).dr ((Dr.refl _).drewN m)).sl (sl_cut hS1 12 16 (by omega) (by omega))) (isB_drop (isB_take hB _) _) (by omega))
  obtain ⟨k1, k2, k3⟩ := sumOf_good (zs.take 12 ++ (zs.take (16 + N)).drop 16)
  generalize sumOf (zs.take 12 ++ (zs.take (16 + N)).drop 16) = s2 at *
  generalize sumOf (zs.take 12) = s1 at *
  have hw : IntKind.i64.wrap (N : Int) = N := by rw [IntKind.wrap_i64]; omega
  have hw2 : IntKind.u64.wrap s2 = s2 := by rw [IntKind.wrap_u64]; omega
  have hd : decide (1024 < (N : Int)) = false := decide_eq_false (by omega)
  have hd2 : decide ((n : Int) < 16 + (N : Int)) = false := decide_eq_false (by omega)
  have hne : (s2 != rdN ((zs.take 16).drop 12) 4) = true := by simp [hbad]
  rw [show (16 - 12 : Nat) = 4 from rfl] at HD3 x4
  rw [show 16 + N - 16 = N by omega] at HD2 x3
  generalize rdN ((zs.take 16).drop 12) 4 = s3 at *
  clear hS hh hB hS1 hN hbad
  unfold recV
  go_enter Try.func11, Try.ntmps11
  go_wp2_with fail
  refine HR.out.mono ?_
  rintro e w' ⟨rfl, rfl⟩
  go_wp2_with fail
  go_quiet ((first | (go_at_call 20; exact Calls.quiet_of_same (unflip (HD1.out _))) | (go_at_call 19; exact Calls.quiet_of_same (unflip (HD2.out _)))))
  go_wp2_with fail
  refine (HD3.out _).mono ?_
  rintro e w' ⟨rfl, rfl⟩
  go_wp2
  exact bodyPost_ret (v := .tuple #[.agg #[.int .u64 0, .slice none 0 0], .int .i64 0, .int .i64 2]) (by simp [results, Try.results11, go_sem, d0, d1]) rfl ⟨rfl, by (unfold Kept; repeat (first | exact Below.refl _ _ | assumption | (refine Below.alloc ?_ (by simp) _) | (refine Below.setCell ?_ (by simp) _) | (refine Below.drew ?_) | (refine below_drewN ?_ _)))⟩
end Go.Proofs.Ytonifnbmofbakaa
