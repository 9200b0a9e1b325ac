/- Get: a record that is whole. -/
import Derived.Test.YtonifnbmofbakaaFrGet2
import Derived.Deep.RegionHeld3
set_option linter.unusedVariables false
set_option linter.unusedSimpArgs false
namespace Go.Proofs.Ytonifnbmofbakaa
open Go.RowKit
set_option maxRecDepth 100000 in
set_option maxHeartbeats 2000000 in
/-- a record -/
theorem fr_get_ok2 (a : Option Addr) (n c N : Nat) (zs : List Int) (w : World) (hS : Sl .u8 w a n c zs) (hB : IsB zs) (hn2 : n ≤ 100000) (hN : rdN zs 4 = N) (hN2 : N ≤ 1024) (hlen : 16 + N ≤ n) (hgood : sumOf (zs.take 12 ++ (zs.take (16 + N)).drop 16) = rdN ((zs.take 16).drop 12) 4) :
    Calls Try.prog 11 #[.slice a n c] w fun e w' => ∃ a' c', e = .returned (.tuple #[recV (rdN ((zs.take 12).drop 4) 8) a' N c', .int .i64 (16 + (N : Int)), .int .i64 0]) ∧ Sl .u8 w' a' N c' ((zs.take (16 + N)).drop 16) ∧ Kept w w' ∧ (∀ x, a' = some x → w.heap.size ≤ x.block) := by
  have K := (((Only.refl [] w).alloc (.cells #[.int .u64 0, .slice none 0 0] 30))).kept
  have hh := heap_alloc_new w (.cells #[.int .u64 0, .slice none 0 0] 30)
  have d0 := at_cell hh 0 _ rfl
  have d1 := at_cell hh 1 _ rfl
  have f0 := one_free hh 0
  have f1 := one_free hh 1
  have h4 : 4 ≤ (n : Int) := by omega
  have hnc := hS.2.1
  have hS1 := K.sl hS
  have x1 := fun W => run_cut_h elemB a n c .i64 4 (4 : Int) rfl (by omega) W
  have x2 := fun W => run_cut_h elemB a n c .i64 12 (12 : Int) rfl (by omega) W
  have x3 := fun W => run_cut_lh elemB a n c .i64 .i64 16 (16 + N) (16 : Int) (16 + (N : Int)) rfl (by push_cast; rfl) (by omega) (by omega) W
  have x4 := fun W => run_cut_lh elemB a n c .i64 .i64 12 16 (12 : Int) (16 : Int) rfl rfl (by omega) (by omega) W
  have HR := Lib.hid (fr_read a 4 c (zs.take 4) (w.alloc (.cells #[.int .u64 0, .slice none 0 0] 30)) (sl_take hS1 4 (by omega)) (isB_take hB 4) (by omega))
  rw [rdN_congr 4 (fun i hi => take_getD zs hi), hN] at HR
  have HD1 := Lib.hid (fun m => sum_of a 12 c (zs.take 12) ((w.alloc (.cells #[.int .u64 0, .slice none 0 0] 30)).drewN m) (((Kept.refl _).dr ((Dr.refl _).drewN m)).sl (sl_take hS1 12 (by omega))) (isB_take hB 12))
  obtain ⟨g1, g2, g3⟩ := sumOf_good (zs.take 12)
  have HD2 := Lib.hid (fun m => sum_on_yes (sumOf (zs.take 12)) (cutA a c 16 1) (16 + N - 16) (c - 16) ((zs.take (16 + N)).drop 16) ((w.alloc (.cells #[.int .u64 0, .slice none 0 0] 30)).drewN m) g2 g3 g1 (((Kept.refl _).dr ((Dr.refl _).drewN m)).sl (sl_cut hS1 16 (16 + N) (by omega) (by omega))) (isB_drop (isB_take hB _) _))
  rw [onV_sumOf] at HD2
  have HD3 := Lib.hid (fun m => fr_read (cutA a c 12 1) (16 - 12) (c - 12) ((zs.take 16).drop 12) ((w.alloc (.cells #[.int .u64 0, .slice none 0 0] 30)).drewN m) (((Kept.refl _).dr ((Dr.refl _).drewN m)).sl (sl_cut hS1 12 16 (by omega) (by omega))) (isB_drop (isB_take hB _) _) (by omega))
  obtain ⟨k1, k2, k3⟩ := sumOf_good (zs.take 12 ++ (zs.take (16 + N)).drop 16)
  generalize sumOf (zs.take 12 ++ (zs.take (16 + N)).drop 16) = s2 at *
  generalize sumOf (zs.take 12) = s1 at *
  have hw : IntKind.i64.wrap (N : Int) = N := by rw [IntKind.wrap_i64]; omega
  have hwN : IntKind.i64.wrap (16 + (N : Int)) = 16 + N := by rw [IntKind.wrap_i64]; omega
  have hw2 : IntKind.u64.wrap s2 = s2 := by rw [IntKind.wrap_u64]; omega
  have hd : decide (1024 < (N : Int)) = false := decide_eq_false (by omega)
  have hd2 : decide ((n : Int) < 16 + (N : Int)) = false := decide_eq_false (by omega)
  have hne : (s2 != rdN ((zs.take 16).drop 12) 4) = false := by simp [hgood]
  have x5 := fun W => run_cut_lh elemB a n c .i64 .i64 4 12 (4 : Int) (12 : Int) rfl rfl (by omega) (by omega) W
  have HD4 := Lib.hid (fun V (kk : Kept (w.alloc (.cells #[.int .u64 0, .slice none 0 0] 30)) V) => fr_read (cutA a c 4 1) (12 - 4) (c - 4) ((zs.take 12).drop 4) V (kk.sl (sl_cut hS1 4 12 (by omega) (by omega))) (isB_drop (isB_take hB _) _) (by omega))
  have HD5 := Lib.hid (fun V (kk : Kept (w.alloc (.cells #[.int .u64 0, .slice none 0 0] 30)) V) => fr_clone (cutA a c 16 1) (16 + N - 16) (c - 16) ((zs.take (16 + N)).drop 16) V (kk.sl (sl_cut hS1 16 (16 + N) (by omega) (by omega))) (by omega))
  rw [show (12 - 4 : Nat) = 8 from rfl] at HD4 x5
  rw [show 16 + N - 16 = N by omega] at HD5
  have HH := Lib.hid hh
  rw [show (16 - 12 : Nat) = 4 from rfl] at HD3 x4
  rw [show 16 + N - 16 = N by omega] at HD2 x3
  generalize rdN ((zs.take 16).drop 12) 4 = s3 at *
  generalize rdN ((zs.take 12).drop 4) 8 = at8 at *
  clear hS hh hB hS1 hN hgood
  unfold recV
  go_enter Try.func11, Try.ntmps11
  go_wp2_with fail
  refine HR.out.mono ?_
  rintro e w' ⟨rfl, rfl⟩
  go_wp2_with fail
  go_quiet ((first | (go_at_call 20; exact Calls.quiet_of_same (unflip (HD1.out _))) | (go_at_call 19; exact Calls.quiet_of_same (unflip (HD2.out _)))))
  go_wp2_with fail
  refine (HD3.out _).mono ?_
  rintro e w' ⟨rfl, rfl⟩
  go_wp2_with fail
  generalize hY : World.drewN (w.alloc _) _ = Y
  have KY : Kept (w.alloc (.cells #[.int .u64 0, .slice none 0 0] 30)) Y := hY ▸ (Kept.refl _).dr ((Dr.refl _).drewN _)
  clear hY d0 d1 f0 f1
  have KD : Kept Y Y.drew := (Kept.refl _).dr ⟨1, rfl⟩
  refine wp_region_held_drew (S := fun _ => True) (by kernel_rfl) (by exact trivial) (fun hHeld => ?_)
  apply wpAnyH_take (i := 0)
  case hi => (simp only [List.getElem?_toArray, List.getElem?_cons_succ, List.getElem?_cons_zero]; rfl)
  case hs => kernel_rfl
  case hf => kernel_rfl
  case hr => kernel_rfl
  case hQ => exact fun _ _ _ h => h
  case hy => (refine Or.inl ⟨by rfl, ?_⟩; (intro w' hSw; (try dsimp only at hSw); go_simp) <;> with_reducible rfl)
  case hS => assumption
  try simp only [Act.put, List.setIfInBounds_toArray, List.set_cons_zero, List.set_cons_succ]
  apply wpAnyH_take (i := 1)
  case hi => (simp only [List.getElem?_toArray, List.getElem?_cons_succ, List.getElem?_cons_zero]; rfl)
  case hs => kernel_rfl
  case hf => kernel_rfl
  case hr => kernel_rfl
  case hQ => exact fun _ _ _ h => h
  case hy => (refine Or.inl ⟨by rfl, ?_⟩; (intro w' hSw; (try dsimp only at hSw); go_simp) <;> with_reducible rfl)
  case hS => assumption
  try simp only [Act.put, List.setIfInBounds_toArray, List.set_cons_zero, List.set_cons_succ]
  apply wpAnyH_take (i := 3)
  case hi => (simp only [List.getElem?_toArray, List.getElem?_cons_succ, List.getElem?_cons_zero]; rfl)
  case hs => kernel_rfl
  case hf => kernel_rfl
  case hr => kernel_rfl
  case hQ => exact fun _ _ _ h => h
  case hy => (refine Or.inl ⟨by rfl, ?_⟩; (intro w' hSw; (try dsimp only at hSw); go_simp) <;> with_reducible rfl)
  case hS => assumption
  try simp only [Act.put, List.setIfInBounds_toArray, List.set_cons_zero, List.set_cons_succ]
  apply wpAnyH_take (i := 4)
  case hi => (simp only [List.getElem?_toArray, List.getElem?_cons_succ, List.getElem?_cons_zero]; rfl)
  case hs => kernel_rfl
  case hf => kernel_rfl
  case hr => kernel_rfl
  case hQ => exact fun _ _ _ h => h
  case hy => (refine Or.inl ⟨by rfl, ?_⟩; (intro w' hSw; (try dsimp only at hSw); go_simp) <;> with_reducible rfl)
  case hS => assumption
  try simp only [Act.put, List.setIfInBounds_toArray, List.set_cons_zero, List.set_cons_succ]
  apply wpAnyH_take (i := 5)
  case hi => (simp only [List.getElem?_toArray, List.getElem?_cons_succ, List.getElem?_cons_zero]; rfl)
  case hs => kernel_rfl
  case hf => kernel_rfl
  case hr => kernel_rfl
  case hQ => exact fun _ _ _ h => h
  case hy => (refine Or.inl ⟨by rfl, ?_⟩; (intro w' hSw; (try dsimp only at hSw); go_simp) <;> with_reducible rfl)
  case hS => assumption
  try simp only [Act.put, List.setIfInBounds_toArray, List.set_cons_zero, List.set_cons_succ]
  apply wpAnyH_take (i := 6)
  case hi => (simp only [List.getElem?_toArray, List.getElem?_cons_succ, List.getElem?_cons_zero]; rfl)
  case hs => kernel_rfl
  case hf => kernel_rfl
  case hr => kernel_rfl
  case hQ => exact fun _ _ _ h => h
  case hy => (refine Or.inl ⟨by rfl, ?_⟩; (intro w' hSw; (try dsimp only at hSw); go_simp) <;> with_reducible rfl)
  case hS => assumption
  try simp only [Act.put, List.setIfInBounds_toArray, List.set_cons_zero, List.set_cons_succ]
  apply wpAnyH_take (i := 9)
  case hi => (simp only [List.getElem?_toArray, List.getElem?_cons_succ, List.getElem?_cons_zero]; rfl)
  case hs => kernel_rfl
  case hf => kernel_rfl
  case hr => kernel_rfl
  case hQ => exact fun _ _ _ h => h
  case hy => (refine Or.inl ⟨by rfl, ?_⟩; (intro w' hSw; (try dsimp only at hSw); go_simp) <;> with_reducible rfl)
  case hS => assumption
  try simp only [Act.put, List.setIfInBounds_toArray, List.set_cons_zero, List.set_cons_succ]
  apply wpAnyH_take (i := 10)
  case hi => (simp only [List.getElem?_toArray, List.getElem?_cons_succ, List.getElem?_cons_zero]; rfl)
  case hs => kernel_rfl
  case hf => kernel_rfl
  case hr => kernel_rfl
  case hQ => exact fun _ _ _ h => h
  case hy => (refine Or.inl ⟨by rfl, ?_⟩; (intro w' hSw; (try dsimp only at hSw); go_simp) <;> with_reducible rfl)
  case hS => assumption
  try simp only [Act.put, List.setIfInBounds_toArray, List.set_cons_zero, List.set_cons_succ]
  refine wpAnyH_ready (rs := [2]) (by kernel_rfl) (by simp) ?_
  apply AllReadyH.cons
  case ho => (simp only [List.getElem?_toArray, List.getElem?_cons_succ, List.getElem?_cons_zero]; rfl)
  case hs => exact AllReadyH.nil
  intro K hK
  go_simp
  go_at_call 22; refine (HD4.out _ (KY.trans KD)).mono ?_; rintro e V ⟨rfl, rfl⟩
  refine hK.out _ _ (by exact trivial) (fun hHeld => ?_)
  clear hK K
  try simp only [Act.put, List.setIfInBounds_toArray, List.set_cons_zero, List.set_cons_succ]
  refine wpAnyH_ready (rs := [7]) (by kernel_rfl) (by simp) ?_
  apply AllReadyH.cons
  case ho => (simp only [List.getElem?_toArray, List.getElem?_cons_succ, List.getElem?_cons_zero]; rfl)
  case hs => exact AllReadyH.nil
  intro K hK
  go_simp
  go_at_call 23; refine (HD5.out _ (KY.trans KD)).mono ?_; rintro e V ⟨a2, c2, g2, rfl, hA2, k2, hg2⟩; have hYs := (KY.trans KD).size; replace KD := KD.trans k2; have hR := (KY.trans KD).only.heap HH.out (by simp); have r0 : V.cell? ⟨w.heap.size, 0, none⟩ = some (.int .u64 0) := at_cell hR 0 _ rfl; have r1 : V.cell? ⟨w.heap.size, 1, none⟩ = some (.slice none 0 0) := at_cell hR 1 _ rfl; have f0 := one_free hR 0; have f1 := one_free hR 1; have HA2 := Lib.hid hA2; clear hA2 k2
  refine hK.out _ _ (by exact trivial) (fun hHeld => ?_)
  clear hK K
  try simp only [Act.put, List.setIfInBounds_toArray, List.set_cons_zero, List.set_cons_succ]
  apply wpAnyH_take (i := 8)
  case hi => (simp only [List.getElem?_toArray, List.getElem?_cons_succ, List.getElem?_cons_zero]; rfl)
  case hs => kernel_rfl
  case hf => kernel_rfl
  case hr => kernel_rfl
  case hQ => exact fun _ _ _ h => h
  case hy => (refine Or.inl ⟨by rfl, ?_⟩; (intro w' hSw; (try dsimp only at hSw); go_simp) <;> with_reducible rfl)
  case hS => assumption
  try simp only [Act.put, List.setIfInBounds_toArray, List.set_cons_zero, List.set_cons_succ]
  refine wpAnyH_ready (rs := [11]) (by kernel_rfl) (by simp) ?_
  apply AllReadyH.cons
  case ho => (simp only [List.getElem?_toArray, List.getElem?_cons_succ, List.getElem?_cons_zero]; rfl)
  case hs => exact AllReadyH.nil
  intro K hK
  go_simp
  skip
  refine hK.out _ _ (by exact trivial) (fun hHeld => ?_)
  clear hK K
  try simp only [Act.put, List.setIfInBounds_toArray, List.set_cons_zero, List.set_cons_succ]
  apply wpAnyH_take (i := 12)
  case hi => (simp only [List.getElem?_toArray, List.getElem?_cons_succ, List.getElem?_cons_zero]; rfl)
  case hs => kernel_rfl
  case hf => kernel_rfl
  case hr => kernel_rfl
  case hQ => exact fun _ _ _ h => h
  case hy => (refine Or.inl ⟨by rfl, ?_⟩; (intro w' hSw; (try dsimp only at hSw); go_simp) <;> with_reducible rfl)
  case hS => assumption
  try simp only [Act.put, List.setIfInBounds_toArray, List.set_cons_zero, List.set_cons_succ]
  apply wpAnyH_take (i := 13)
  case hi => (simp only [List.getElem?_toArray, List.getElem?_cons_succ, List.getElem?_cons_zero]; rfl)
  case hs => kernel_rfl
  case hf => kernel_rfl
  case hr => kernel_rfl
  case hQ => exact fun _ _ _ h => h
  case hy => (refine Or.inl ⟨by rfl, ?_⟩; (intro w' hSw; (try dsimp only at hSw); go_simp) <;> with_reducible rfl)
  case hS => assumption
  try simp only [Act.put, List.setIfInBounds_toArray, List.set_cons_zero, List.set_cons_succ]
  refine wpAnyH_done (by kernel_rfl) ?_ _
  obtain ⟨hS2, hg3⟩ := app_sl HA2.out
  have hq := at_set (at_set hR 0 (.int .u64 at8)) 1 (.slice a2 N c2)
  have d3 := at_cell hq 0 _ rfl
  have d4 := at_cell hq 1 _ rfl
  have o2 : Only [w.heap.size] V ((V.setCell ⟨w.heap.size, 0, none⟩ (.int .u64 at8)).setCell ⟨w.heap.size, 1, none⟩ (.slice a2 N c2)) := (((Only.refl _ V).setCell (fun _ => by simp) _).setCell (fun _ => by simp) _)
  have hin : inB a2 [w.heap.size] := by
    intro x hx hm
    have h3 := hg3 x hx
    have h4 := hg2 _ h3
    simp at hm hYs h4
    omega
  have HFr : Hid (∀ x, a2 = some x → w.heap.size ≤ x.block) := (by intro x hx; have h4 := hg2 _ (hg3 x hx); simp at hYs h4; omega)
  have HQ := Lib.hid (o2.sl hS2 hin)
  have KF := (K.trans (KY.trans KD)).onl o2 (by intro i hi; have := List.mem_singleton.1 hi; omega)
  clear hq hS2 o2
  go_wp2
  exact bodyPost_ret (v := .tuple #[.agg #[.int .u64 at8, .slice a2 N c2], .int .i64 (16 + (N : Int)), .int .i64 0]) (by simp [results, Try.results11, go_sem, d3, d4]) rfl ⟨a2, c2, rfl, HQ.out, KF, HFr.out⟩
theorem fr_get_ok (a : Option Addr) (n c N : Nat) (zs : List Int) (w : World) (hS : Sl .u8 w a n c zs) (hB : IsB zs) (hn2 : n ≤ 100000) (hN : rdN zs 4 = N) (hN2 : N ≤ 1024) (hlen : 16 + N ≤ n) (hgood : sumOf (zs.take 12 ++ (zs.take (16 + N)).drop 16) = rdN ((zs.take 16).drop 12) 4) :
    Calls Try.prog 11 #[.slice a n c] w fun e w' => ∃ a' c', e = .returned (.tuple #[recV (rdN ((zs.take 12).drop 4) 8) a' N c', .int .i64 (16 + (N : Int)), .int .i64 0]) ∧ Sl .u8 w' a' N c' ((zs.take (16 + N)).drop 16) ∧ Kept w w' :=
  (fr_get_ok2 a n c N zs w hS hB hn2 hN hN2 hlen hgood).mono fun e w' ⟨a', c', h1, h2, h3, _⟩ => ⟨a', c', h1, h2, h3⟩
end Go.Proofs.Ytonifnbmofbakaa
