/- EventSays: the walk. -/
import Derived.Test.YteaepgbakcifkaaDoorEvSameW
import Derived.Test.YteaepgbakcifkaaDoorEvD7
import Derived.Test.YteaepgbakcifkaaDoorEvD8
set_option linter.unusedVariables false
set_option linter.unusedSimpArgs false
namespace Go.Proofs.YteaepgbakcifkaaDoor
open Go.RowKit
theorem rv_put (e : EV) (hs : e.nm.size ≤ 281474976710656) (w : World) : Calls Tryd.prog 15 #[evV e] w fun E w' => ∃ a n c, E = .returned (.slice a n c) ∧ Sl .u8 w' a n c (putE e) ∧ Kept w w' := by
  unfold putE
  by_cases h : goodE e = true
  · rw [if_pos h]
    exact (rv_put_yes e h w).mono fun E w' ⟨a, c, h1, h2, h3⟩ => ⟨a, _, c, h1, h2, h3⟩
  · rw [if_neg h]
    exact (rv_put_no e hs (by simpa using h) w).mono fun E w' ⟨h1, h3⟩ => ⟨none, 0, 0, h1, sl_nil .u8 w', h3⟩
set_option maxRecDepth 100000 in
set_option maxHeartbeats 8000000 in
theorem evSays_big (e : EV) (a : Option Addr) (n c : Nat) {w : World} (hv : EvV w) (h : 100 < e.nm.size ∨ 100 < e.ky.size ∨ 1000 < e.dt.size ∨ 1200 < n) : Calls Tryd.prog 4 #[evV e, .slice a n c] w fun E w' => E = .returned (.bool true) ∧ Kept w w' := by
  have hX := heap_alloc_new w (evO e)
  have hK := kept_alA w (evO e)
  have HAw := Lib.hid (ev_awake (hv.kept hK))
  have HX := Lib.hid hX
  have HK := Lib.hid hK
  clear hX hK hv
  have hcase : ((100 : Int) < e.nm.size) ∨ ((e.nm.size : Int) ≤ 100 ∧ (100 : Int) < e.ky.size) ∨ ((e.nm.size : Int) ≤ 100 ∧ (e.ky.size : Int) ≤ 100 ∧ (1000 : Int) < e.dt.size) ∨ ((e.nm.size : Int) ≤ 100 ∧ (e.ky.size : Int) ≤ 100 ∧ (e.dt.size : Int) ≤ 1000 ∧ (1200 : Int) < n) := by omega
  clear h
  rcases hcase with h | ⟨h, h2⟩ | ⟨h, h2, h3⟩ | ⟨h, h2, h3, h4⟩
  all_goals
    go_enter Tryd.func4, Tryd.ntmps4
    go_wp2_with fail
    refine HAw.out.mono ?_
    rintro E X ⟨rfl, hK1⟩
    obtain ⟨a0, a1, a2, a3, a4, a5, a6, a7⟩ := ev_cells (hK1.only.heap HX.out (by simp))
    have HK1 := Lib.hid (HK.out.trans hK1)
    clear hK1
    go_wp2_with fail
    go_ret
    exact ⟨rfl, HK1.out⟩
set_option maxRecDepth 100000 in
set_option maxHeartbeats 16000000 in
theorem evSays (e : EV) (a : Option Addr) (n c : Nat) (zs : List Int) {w : World} (hv : EvV w) (hS : Sl .u8 w a n c zs) (hB : IsB zs) (h1 : e.nm.size ≤ 100) (h2 : e.ky.size ≤ 100) (h3 : e.dt.size ≤ 1000) (h4 : n ≤ 1200) : Calls Tryd.prog 4 #[evV e, .slice a n c] w fun E w' => E = .returned (.bool true) ∧ Kept w w' := by
  have hX := heap_alloc_new w (evO e)
  have hK := kept_alA w (evO e)
  have HAw := Lib.hid (ev_awake (hv.kept hK))
  have HV0 := Lib.hid hv
  have HX := Lib.hid hX
  have HK := Lib.hid hK
  have HS := Lib.hid (hK.sl hS)
  have HGet := Lib.hid (fun W (h : Sl .u8 W a n c zs) => ev_get a n c zs W h hB (by omega))
  have HRet := Lib.hid (fun W (h : Sl .u8 W a n c zs) => rv_get a n c zs W h hB (by omega))
  rw [getD_eq hB] at HRet
  have hnm : e.nm.size ≤ 281474976710656 := by omega
  have HG := Lib.hid (fun W => ev_good e W)
  have HP := Lib.hid (fun W => ev_put e W)
  have HSh := Lib.hid (fun W (h : EvV W) => ev_show e h)
  have HRG := Lib.hid (fun W => rv_good e hnm W)
  rw [goodD_eq] at HRG
  have HRP := Lib.hid (fun W => rv_put e hnm W)
  have HRSh := Lib.hid (fun W => rv_show e hnm W)
  have HOf := Lib.hid (fun x W => ev_of x W)
  clear hX hK hv hS hB
  obtain ⟨x, hx⟩ : ∃ x, (getE zs).1 = x := ⟨_, rfl⟩
  obtain ⟨f, hf⟩ : ∃ f, (getE zs).2 = f := ⟨_, rfl⟩
  rw [hx, hf] at HGet HRet
  clear hx hf
  have HQ := Lib.hid (fun W => run_eqD x x W)
  rw [decide_eq_true rfl] at HQ
  have g1 : (e.nm.size : Int) ≤ 100 := by omega
  have g2 : (e.ky.size : Int) ≤ 100 := by omega
  have g3 : (e.dt.size : Int) ≤ 1000 := by omega
  have g4 : (n : Int) ≤ 1200 := by omega
  clear hnm h1 h2 h3 h4
  go_enter Tryd.func4, Tryd.ntmps4
  go_wp2_with fail
  refine HAw.out.mono ?_
  rintro E X ⟨rfl, hK1⟩
  replace HX := Lib.hid (hK1.only.heap HX.out (by simp))
  replace HK := Lib.hid (HK.out.trans hK1)
  replace HS := Lib.hid (hK1.sl HS.out)
  clear hK1 HAw
  generalize hq : w.heap.size = q at *
  clear hq
  obtain ⟨a0, a1, a2, a3, a4, a5, a6, a7⟩ := ev_cells HX.out
  go_wp2_with fail
  refine (HGet.out _ HS.out).mono ?_
  rintro E V1 ⟨rfl, hK1⟩
  replace HX := Lib.hid (heap_keep (hK1.only.heap HX.out (by simp)) (evO x))
  have HY := Lib.hid (heap_alloc_new V1 (evO x))
  replace HK := Lib.hid ((HK.out.trans hK1).trans (kept_alA V1 (evO x)))
  replace HS := Lib.hid ((hK1.trans (kept_alA V1 (evO x))).sl HS.out)
  clear hK1 HGet a0 a1 a2 a3 a4 a5 a6 a7
  go_wp2_with fail
  refine (HRet.out _ HS.out).mono ?_
  rintro E V2 ⟨rfl, hK1⟩
  replace HX := Lib.hid (heap_keep (hK1.only.heap HX.out (by simp)) (evOd x))
  replace HY := Lib.hid (heap_keep (hK1.only.heap HY.out (by simp)) (evOd x))
  have HD := Lib.hid (heap_alloc_new V2 (evOd x))
  replace HK := Lib.hid ((HK.out.trans hK1).trans (kept_alA V2 (evOd x)))
  have HVz := Lib.hid (HV0.out.kept HK.out)
  clear hK1 HRet HS HV0
  generalize V1.heap.size = q5 at *
  generalize goodE e = g at *
  generalize putE e = pe at *
  generalize showE e = sh at *
  go_wp2_with fail
  generalize hZ : V2.alloc (.cells #[.int .i64 x.k, .int .i64 x.r, .int .i64 x.t, .int .i64 x.y, .int .i64 x.n, .string x.nm, .string x.ky, .string x.dt] 33 (0, 0)) = Z
  rw [show V2.alloc (evOd x) = Z from hZ] at HX HY HD HK HVz
  clear hZ
  generalize V2.heap.size = q7 at *
  have HSc : Hid (∀ w', Kept Z w' → ((w'.cell? ⟨q, 0, none⟩ = some (.int .i64 e.k) ∧ w'.cell? ⟨q, 1, none⟩ = some (.int .i64 e.r) ∧ w'.cell? ⟨q, 2, none⟩ = some (.int .i64 e.t) ∧ w'.cell? ⟨q, 3, none⟩ = some (.int .i64 e.y) ∧ w'.cell? ⟨q, 4, none⟩ = some (.int .i64 e.n) ∧ w'.cell? ⟨q, 5, none⟩ = some (.string e.nm) ∧ w'.cell? ⟨q, 6, none⟩ = some (.string e.ky) ∧ w'.cell? ⟨q, 7, none⟩ = some (.string e.dt)) ∧ (w'.cell? ⟨q5, 0, none⟩ = some (.int .i64 x.k) ∧ w'.cell? ⟨q5, 1, none⟩ = some (.int .i64 x.r) ∧ w'.cell? ⟨q5, 2, none⟩ = some (.int .i64 x.t) ∧ w'.cell? ⟨q5, 3, none⟩ = some (.int .i64 x.y) ∧ w'.cell? ⟨q5, 4, none⟩ = some (.int .i64 x.n) ∧ w'.cell? ⟨q5, 5, none⟩ = some (.string x.nm) ∧ w'.cell? ⟨q5, 6, none⟩ = some (.string x.ky) ∧ w'.cell? ⟨q5, 7, none⟩ = some (.string x.dt))) ∧ (w'.cell? ⟨q7, 0, none⟩ = some (.int .i64 x.k) ∧ w'.cell? ⟨q7, 1, none⟩ = some (.int .i64 x.r) ∧ w'.cell? ⟨q7, 2, none⟩ = some (.int .i64 x.t) ∧ w'.cell? ⟨q7, 3, none⟩ = some (.int .i64 x.y) ∧ w'.cell? ⟨q7, 4, none⟩ = some (.int .i64 x.n) ∧ w'.cell? ⟨q7, 5, none⟩ = some (.string x.nm) ∧ w'.cell? ⟨q7, 6, none⟩ = some (.string x.ky) ∧ w'.cell? ⟨q7, 7, none⟩ = some (.string x.dt))) := fun V k => ⟨⟨ev_cells (k.only.heap HX.out (by simp)), ev_cells (k.only.heap HY.out (by simp))⟩, evd_cells (k.only.heap HD.out (by simp))⟩
  have KD : Kept Z Z.drew := by (unfold Kept; repeat (first | exact Below.refl _ _ | assumption | (refine Below.alloc ?_ (by simp) _) | (refine Below.setCell ?_ (by simp) _) | (refine Below.drew ?_) | (refine _root_.Go.below_drewN ?_ _)))
  have HQ2 := HQ.out
  clear HQ
  refine wp_region_held_drew (S := (fun w' => ((w'.cell? ⟨q, 0, none⟩ = some (.int .i64 e.k) ∧ w'.cell? ⟨q, 1, none⟩ = some (.int .i64 e.r) ∧ w'.cell? ⟨q, 2, none⟩ = some (.int .i64 e.t) ∧ w'.cell? ⟨q, 3, none⟩ = some (.int .i64 e.y) ∧ w'.cell? ⟨q, 4, none⟩ = some (.int .i64 e.n) ∧ w'.cell? ⟨q, 5, none⟩ = some (.string e.nm) ∧ w'.cell? ⟨q, 6, none⟩ = some (.string e.ky) ∧ w'.cell? ⟨q, 7, none⟩ = some (.string e.dt)) ∧ (w'.cell? ⟨q5, 0, none⟩ = some (.int .i64 x.k) ∧ w'.cell? ⟨q5, 1, none⟩ = some (.int .i64 x.r) ∧ w'.cell? ⟨q5, 2, none⟩ = some (.int .i64 x.t) ∧ w'.cell? ⟨q5, 3, none⟩ = some (.int .i64 x.y) ∧ w'.cell? ⟨q5, 4, none⟩ = some (.int .i64 x.n) ∧ w'.cell? ⟨q5, 5, none⟩ = some (.string x.nm) ∧ w'.cell? ⟨q5, 6, none⟩ = some (.string x.ky) ∧ w'.cell? ⟨q5, 7, none⟩ = some (.string x.dt))) ∧ (w'.cell? ⟨q7, 0, none⟩ = some (.int .i64 x.k) ∧ w'.cell? ⟨q7, 1, none⟩ = some (.int .i64 x.r) ∧ w'.cell? ⟨q7, 2, none⟩ = some (.int .i64 x.t) ∧ w'.cell? ⟨q7, 3, none⟩ = some (.int .i64 x.y) ∧ w'.cell? ⟨q7, 4, none⟩ = some (.int .i64 x.n) ∧ w'.cell? ⟨q7, 5, none⟩ = some (.string x.nm) ∧ w'.cell? ⟨q7, 6, none⟩ = some (.string x.ky) ∧ w'.cell? ⟨q7, 7, none⟩ = some (.string x.dt)))) (by kernel_rfl) (by exact HSc.out _ KD) (fun hHeld => ?_)
  apply wpAnyH_take (i := 0)
  case hi => (simp only [List.getElem?_toArray, List.getElem?_cons_succ, List.getElem?_cons_zero]; rfl)
  case hs => kernel_rfl
  case hf => kernel_rfl
  case hr => kernel_rfl
  case hQ => exact fun _ _ _ h => h
  case hy => (refine Or.inl ⟨by rfl, ?_⟩; (intro w' hSw; (try dsimp only at hSw); go_simp) <;> with_reducible rfl)
  case hS => assumption
  try simp only [Act.put, List.setIfInBounds_toArray, List.set_cons_zero, List.set_cons_succ]
  apply wpAnyH_take (i := 2)
  case hi => (simp only [List.getElem?_toArray, List.getElem?_cons_succ, List.getElem?_cons_zero]; rfl)
  case hs => kernel_rfl
  case hf => kernel_rfl
  case hr => kernel_rfl
  case hQ => exact fun _ _ _ h => h
  case hy => (refine Or.inl ⟨by rfl, ?_⟩; (intro w' hSw; (try dsimp only at hSw); go_simp) <;> with_reducible rfl)
  case hS => assumption
  try simp only [Act.put, List.setIfInBounds_toArray, List.set_cons_zero, List.set_cons_succ]
  refine wpAnyH_ready (rs := [1]) (by kernel_rfl) (by simp) ?_
  apply AllReadyH.cons
  case ho => (simp only [List.getElem?_toArray, List.getElem?_cons_succ, List.getElem?_cons_zero]; rfl)
  case hs => exact AllReadyH.nil
  intro K hK
  go_simp
  (go_at_call 8; refine (HG.out _).mono ?_; rintro E1 Y1 ⟨rfl, J⟩; replace KD := KD.trans J; clear J)
  refine hK.out _ _ (by exact HSc.out _ KD) (fun hHeld => ?_)
  clear hK K
  try simp only [Act.put, List.setIfInBounds_toArray, List.set_cons_zero, List.set_cons_succ]
  refine wpAnyH_ready (rs := [3]) (by kernel_rfl) (by simp) ?_
  apply AllReadyH.cons
  case ho => (simp only [List.getElem?_toArray, List.getElem?_cons_succ, List.getElem?_cons_zero]; rfl)
  case hs => exact AllReadyH.nil
  intro K hK
  go_simp
  (go_at_call 14; refine (HOf.out e _).mono ?_; rintro E3 Y3 ⟨rfl, J⟩; replace KD := KD.trans J; clear J)
  refine hK.out _ _ (by exact HSc.out _ KD) (fun hHeld => ?_)
  clear hK K
  try simp only [Act.put, List.setIfInBounds_toArray, List.set_cons_zero, List.set_cons_succ]
  refine wpAnyH_ready (rs := [4]) (by kernel_rfl) (by simp) ?_
  apply AllReadyH.cons
  case ho => (simp only [List.getElem?_toArray, List.getElem?_cons_succ, List.getElem?_cons_zero]; rfl)
  case hs => exact AllReadyH.nil
  intro K hK
  go_simp
  (go_at_call 13; refine (HRG.out _).mono ?_; rintro E4 Y4 ⟨rfl, J⟩; replace KD := KD.trans J; clear J)
  refine hK.out _ _ (by exact HSc.out _ KD) (fun hHeld => ?_)
  clear hK K
  try simp only [Act.put, List.setIfInBounds_toArray, List.set_cons_zero, List.set_cons_succ]
  apply wpAnyH_take (i := 5)
  case hi => (simp only [List.getElem?_toArray, List.getElem?_cons_succ, List.getElem?_cons_zero]; rfl)
  case hs => kernel_rfl
  case hf => kernel_rfl
  case hr => kernel_rfl
  case hQ => exact fun _ _ _ h => h
  case hy => (refine Or.inl ⟨by rfl, ?_⟩; (intro w' hSw; (try dsimp only at hSw); go_simp) <;> with_reducible rfl)
  case hS => assumption
  try simp only [Act.put, List.setIfInBounds_toArray, List.set_cons_zero, List.set_cons_succ]
  apply wpAnyH_take (i := 6)
  case hi => (simp only [List.getElem?_toArray, List.getElem?_cons_succ, List.getElem?_cons_zero]; rfl)
  case hs => kernel_rfl
  case hf => kernel_rfl
  case hr => kernel_rfl
  case hQ => exact fun _ _ _ h => h
  case hy => (refine Or.inl ⟨by rfl, ?_⟩; (intro w' hSw; (try dsimp only at hSw); go_simp) <;> with_reducible rfl)
  case hS => assumption
  try simp only [Act.put, List.setIfInBounds_toArray, List.set_cons_zero, List.set_cons_succ]
  apply wpAnyH_take (i := 7)
  case hi => (simp only [List.getElem?_toArray, List.getElem?_cons_succ, List.getElem?_cons_zero]; rfl)
  case hs => kernel_rfl
  case hf => kernel_rfl
  case hr => kernel_rfl
  case hQ => exact fun _ _ _ h => h
  case hy => (refine Or.inl ⟨by rfl, ?_⟩; (intro w' hSw; (try dsimp only at hSw); go_simp) <;> with_reducible rfl)
  case hS => assumption
  try simp only [Act.put, List.setIfInBounds_toArray, List.set_cons_zero, List.set_cons_succ]
  apply wpAnyH_take (i := 10)
  case hi => (simp only [List.getElem?_toArray, List.getElem?_cons_succ, List.getElem?_cons_zero]; rfl)
  case hs => kernel_rfl
  case hf => kernel_rfl
  case hr => kernel_rfl
  case hQ => exact fun _ _ _ h => h
  case hy => (refine Or.inl ⟨by rfl, ?_⟩; (intro w' hSw; (try dsimp only at hSw); go_simp) <;> with_reducible rfl)
  case hS => assumption
  try simp only [Act.put, List.setIfInBounds_toArray, List.set_cons_zero, List.set_cons_succ]
  refine wpAnyH_ready (rs := [8]) (by kernel_rfl) (by simp) ?_
  apply AllReadyH.cons
  case ho => (simp only [List.getElem?_toArray, List.getElem?_cons_succ, List.getElem?_cons_zero]; rfl)
  case hs => exact AllReadyH.nil
  intro K hK
  go_simp
  (go_at_call 9; refine (HP.out _).mono ?_; rintro E8 Y8 ⟨a1, n1, c1, rfl, hS, J⟩; replace KD := KD.trans J; have HS1 := Lib.hid hS; clear hS J)
  refine hK.out _ _ (by exact HSc.out _ KD) (fun hHeld => ?_)
  clear hK K
  try simp only [Act.put, List.setIfInBounds_toArray, List.set_cons_zero, List.set_cons_succ]
  have K1 : Kept Y8 Y8 := Kept.refl _
  have HC1 := Lib.hid (fun V (k : Kept Y8 V) => run_conv (k.sl HS1.out))
  refine wpAnyH_strong (S' := (fun w' => (((w'.cell? ⟨q, 0, none⟩ = some (.int .i64 e.k) ∧ w'.cell? ⟨q, 1, none⟩ = some (.int .i64 e.r) ∧ w'.cell? ⟨q, 2, none⟩ = some (.int .i64 e.t) ∧ w'.cell? ⟨q, 3, none⟩ = some (.int .i64 e.y) ∧ w'.cell? ⟨q, 4, none⟩ = some (.int .i64 e.n) ∧ w'.cell? ⟨q, 5, none⟩ = some (.string e.nm) ∧ w'.cell? ⟨q, 6, none⟩ = some (.string e.ky) ∧ w'.cell? ⟨q, 7, none⟩ = some (.string e.dt)) ∧ (w'.cell? ⟨q5, 0, none⟩ = some (.int .i64 x.k) ∧ w'.cell? ⟨q5, 1, none⟩ = some (.int .i64 x.r) ∧ w'.cell? ⟨q5, 2, none⟩ = some (.int .i64 x.t) ∧ w'.cell? ⟨q5, 3, none⟩ = some (.int .i64 x.y) ∧ w'.cell? ⟨q5, 4, none⟩ = some (.int .i64 x.n) ∧ w'.cell? ⟨q5, 5, none⟩ = some (.string x.nm) ∧ w'.cell? ⟨q5, 6, none⟩ = some (.string x.ky) ∧ w'.cell? ⟨q5, 7, none⟩ = some (.string x.dt))) ∧ (w'.cell? ⟨q7, 0, none⟩ = some (.int .i64 x.k) ∧ w'.cell? ⟨q7, 1, none⟩ = some (.int .i64 x.r) ∧ w'.cell? ⟨q7, 2, none⟩ = some (.int .i64 x.t) ∧ w'.cell? ⟨q7, 3, none⟩ = some (.int .i64 x.y) ∧ w'.cell? ⟨q7, 4, none⟩ = some (.int .i64 x.n) ∧ w'.cell? ⟨q7, 5, none⟩ = some (.string x.nm) ∧ w'.cell? ⟨q7, 6, none⟩ = some (.string x.ky) ∧ w'.cell? ⟨q7, 7, none⟩ = some (.string x.dt))) ∧ (convert 27 9 (.slice a1 n1 c1)).run Tryd.prog w' = .ok (.string (strOf pe)) w')) (fun _ h => h.1) _ _ _ _ ?_
  replace hHeld : (fun w' => (((w'.cell? ⟨q, 0, none⟩ = some (.int .i64 e.k) ∧ w'.cell? ⟨q, 1, none⟩ = some (.int .i64 e.r) ∧ w'.cell? ⟨q, 2, none⟩ = some (.int .i64 e.t) ∧ w'.cell? ⟨q, 3, none⟩ = some (.int .i64 e.y) ∧ w'.cell? ⟨q, 4, none⟩ = some (.int .i64 e.n) ∧ w'.cell? ⟨q, 5, none⟩ = some (.string e.nm) ∧ w'.cell? ⟨q, 6, none⟩ = some (.string e.ky) ∧ w'.cell? ⟨q, 7, none⟩ = some (.string e.dt)) ∧ (w'.cell? ⟨q5, 0, none⟩ = some (.int .i64 x.k) ∧ w'.cell? ⟨q5, 1, none⟩ = some (.int .i64 x.r) ∧ w'.cell? ⟨q5, 2, none⟩ = some (.int .i64 x.t) ∧ w'.cell? ⟨q5, 3, none⟩ = some (.int .i64 x.y) ∧ w'.cell? ⟨q5, 4, none⟩ = some (.int .i64 x.n) ∧ w'.cell? ⟨q5, 5, none⟩ = some (.string x.nm) ∧ w'.cell? ⟨q5, 6, none⟩ = some (.string x.ky) ∧ w'.cell? ⟨q5, 7, none⟩ = some (.string x.dt))) ∧ (w'.cell? ⟨q7, 0, none⟩ = some (.int .i64 x.k) ∧ w'.cell? ⟨q7, 1, none⟩ = some (.int .i64 x.r) ∧ w'.cell? ⟨q7, 2, none⟩ = some (.int .i64 x.t) ∧ w'.cell? ⟨q7, 3, none⟩ = some (.int .i64 x.y) ∧ w'.cell? ⟨q7, 4, none⟩ = some (.int .i64 x.n) ∧ w'.cell? ⟨q7, 5, none⟩ = some (.string x.nm) ∧ w'.cell? ⟨q7, 6, none⟩ = some (.string x.ky) ∧ w'.cell? ⟨q7, 7, none⟩ = some (.string x.dt))) ∧ (convert 27 9 (.slice a1 n1 c1)).run Tryd.prog w' = .ok (.string (strOf pe)) w') Y8 := ⟨HSc.out _ KD, HC1.out _ K1⟩
  apply wpAnyH_take (i := 9)
  case hi => (simp only [List.getElem?_toArray, List.getElem?_cons_succ, List.getElem?_cons_zero]; rfl)
  case hs => kernel_rfl
  case hf => kernel_rfl
  case hr => kernel_rfl
  case hQ => exact fun _ _ _ h => h
  case hy => (refine Or.inl ⟨by rfl, ?_⟩; (intro w' hSw; (try dsimp only at hSw); go_simp) <;> with_reducible rfl)
  case hS => assumption
  try simp only [Act.put, List.setIfInBounds_toArray, List.set_cons_zero, List.set_cons_succ]
  refine wpAnyH_ready (rs := [11]) (by kernel_rfl) (by simp) ?_
  apply AllReadyH.cons
  case ho => (simp only [List.getElem?_toArray, List.getElem?_cons_succ, List.getElem?_cons_zero]; rfl)
  case hs => exact AllReadyH.nil
  intro K hK
  go_simp
  (go_at_call 14; refine (HOf.out e _).mono ?_; rintro E11 Y11 ⟨rfl, J⟩; replace KD := KD.trans J; replace K1 := K1.trans J; clear J)
  refine hK.out _ _ (by exact ⟨HSc.out _ KD, HC1.out _ K1⟩) (fun hHeld => ?_)
  clear hK K
  try simp only [Act.put, List.setIfInBounds_toArray, List.set_cons_zero, List.set_cons_succ]
  refine wpAnyH_ready (rs := [12]) (by kernel_rfl) (by simp) ?_
  apply AllReadyH.cons
  case ho => (simp only [List.getElem?_toArray, List.getElem?_cons_succ, List.getElem?_cons_zero]; rfl)
  case hs => exact AllReadyH.nil
  intro K hK
  go_simp
  (go_at_call 15; refine (HRP.out _).mono ?_; rintro E12 Y12 ⟨a2, n2, c2, rfl, hS, J⟩; replace KD := KD.trans J; replace K1 := K1.trans J; have HS2 := Lib.hid hS; clear hS J)
  refine hK.out _ _ (by exact ⟨HSc.out _ KD, HC1.out _ K1⟩) (fun hHeld => ?_)
  clear hK K
  try simp only [Act.put, List.setIfInBounds_toArray, List.set_cons_zero, List.set_cons_succ]
  have K2 : Kept Y12 Y12 := Kept.refl _
  have HC2 := Lib.hid (fun V (k : Kept Y12 V) => run_conv (k.sl HS2.out))
  refine wpAnyH_strong (S' := (fun w' => ((((w'.cell? ⟨q, 0, none⟩ = some (.int .i64 e.k) ∧ w'.cell? ⟨q, 1, none⟩ = some (.int .i64 e.r) ∧ w'.cell? ⟨q, 2, none⟩ = some (.int .i64 e.t) ∧ w'.cell? ⟨q, 3, none⟩ = some (.int .i64 e.y) ∧ w'.cell? ⟨q, 4, none⟩ = some (.int .i64 e.n) ∧ w'.cell? ⟨q, 5, none⟩ = some (.string e.nm) ∧ w'.cell? ⟨q, 6, none⟩ = some (.string e.ky) ∧ w'.cell? ⟨q, 7, none⟩ = some (.string e.dt)) ∧ (w'.cell? ⟨q5, 0, none⟩ = some (.int .i64 x.k) ∧ w'.cell? ⟨q5, 1, none⟩ = some (.int .i64 x.r) ∧ w'.cell? ⟨q5, 2, none⟩ = some (.int .i64 x.t) ∧ w'.cell? ⟨q5, 3, none⟩ = some (.int .i64 x.y) ∧ w'.cell? ⟨q5, 4, none⟩ = some (.int .i64 x.n) ∧ w'.cell? ⟨q5, 5, none⟩ = some (.string x.nm) ∧ w'.cell? ⟨q5, 6, none⟩ = some (.string x.ky) ∧ w'.cell? ⟨q5, 7, none⟩ = some (.string x.dt))) ∧ (w'.cell? ⟨q7, 0, none⟩ = some (.int .i64 x.k) ∧ w'.cell? ⟨q7, 1, none⟩ = some (.int .i64 x.r) ∧ w'.cell? ⟨q7, 2, none⟩ = some (.int .i64 x.t) ∧ w'.cell? ⟨q7, 3, none⟩ = some (.int .i64 x.y) ∧ w'.cell? ⟨q7, 4, none⟩ = some (.int .i64 x.n) ∧ w'.cell? ⟨q7, 5, none⟩ = some (.string x.nm) ∧ w'.cell? ⟨q7, 6, none⟩ = some (.string x.ky) ∧ w'.cell? ⟨q7, 7, none⟩ = some (.string x.dt))) ∧ (convert 27 9 (.slice a1 n1 c1)).run Tryd.prog w' = .ok (.string (strOf pe)) w') ∧ (convert 27 9 (.slice a2 n2 c2)).run Tryd.prog w' = .ok (.string (strOf pe)) w')) (fun _ h => h.1) _ _ _ _ ?_
  replace hHeld : (fun w' => ((((w'.cell? ⟨q, 0, none⟩ = some (.int .i64 e.k) ∧ w'.cell? ⟨q, 1, none⟩ = some (.int .i64 e.r) ∧ w'.cell? ⟨q, 2, none⟩ = some (.int .i64 e.t) ∧ w'.cell? ⟨q, 3, none⟩ = some (.int .i64 e.y) ∧ w'.cell? ⟨q, 4, none⟩ = some (.int .i64 e.n) ∧ w'.cell? ⟨q, 5, none⟩ = some (.string e.nm) ∧ w'.cell? ⟨q, 6, none⟩ = some (.string e.ky) ∧ w'.cell? ⟨q, 7, none⟩ = some (.string e.dt)) ∧ (w'.cell? ⟨q5, 0, none⟩ = some (.int .i64 x.k) ∧ w'.cell? ⟨q5, 1, none⟩ = some (.int .i64 x.r) ∧ w'.cell? ⟨q5, 2, none⟩ = some (.int .i64 x.t) ∧ w'.cell? ⟨q5, 3, none⟩ = some (.int .i64 x.y) ∧ w'.cell? ⟨q5, 4, none⟩ = some (.int .i64 x.n) ∧ w'.cell? ⟨q5, 5, none⟩ = some (.string x.nm) ∧ w'.cell? ⟨q5, 6, none⟩ = some (.string x.ky) ∧ w'.cell? ⟨q5, 7, none⟩ = some (.string x.dt))) ∧ (w'.cell? ⟨q7, 0, none⟩ = some (.int .i64 x.k) ∧ w'.cell? ⟨q7, 1, none⟩ = some (.int .i64 x.r) ∧ w'.cell? ⟨q7, 2, none⟩ = some (.int .i64 x.t) ∧ w'.cell? ⟨q7, 3, none⟩ = some (.int .i64 x.y) ∧ w'.cell? ⟨q7, 4, none⟩ = some (.int .i64 x.n) ∧ w'.cell? ⟨q7, 5, none⟩ = some (.string x.nm) ∧ w'.cell? ⟨q7, 6, none⟩ = some (.string x.ky) ∧ w'.cell? ⟨q7, 7, none⟩ = some (.string x.dt))) ∧ (convert 27 9 (.slice a1 n1 c1)).run Tryd.prog w' = .ok (.string (strOf pe)) w') ∧ (convert 27 9 (.slice a2 n2 c2)).run Tryd.prog w' = .ok (.string (strOf pe)) w') Y12 := ⟨⟨HSc.out _ KD, HC1.out _ K1⟩, HC2.out _ K2⟩
  apply wpAnyH_take (i := 13)
  case hi => (simp only [List.getElem?_toArray, List.getElem?_cons_succ, List.getElem?_cons_zero]; rfl)
  case hs => kernel_rfl
  case hf => kernel_rfl
  case hr => kernel_rfl
  case hQ => exact fun _ _ _ h => h
  case hy => (refine Or.inl ⟨by rfl, ?_⟩; (intro w' hSw; (try dsimp only at hSw); go_simp) <;> with_reducible rfl)
  case hS => assumption
  try simp only [Act.put, List.setIfInBounds_toArray, List.set_cons_zero, List.set_cons_succ]
  apply wpAnyH_take (i := 14)
  case hi => (simp only [List.getElem?_toArray, List.getElem?_cons_succ, List.getElem?_cons_zero]; rfl)
  case hs => kernel_rfl
  case hf => kernel_rfl
  case hr => kernel_rfl
  case hQ => exact fun _ _ _ h => h
  case hy => (refine Or.inl ⟨by rfl, ?_⟩; (intro w' hSw; (try dsimp only at hSw); go_simp) <;> with_reducible rfl)
  case hS => assumption
  try simp only [Act.put, List.setIfInBounds_toArray, List.set_cons_zero, List.set_cons_succ]
  apply wpAnyH_take (i := 15)
  case hi => (simp only [List.getElem?_toArray, List.getElem?_cons_succ, List.getElem?_cons_zero]; rfl)
  case hs => kernel_rfl
  case hf => kernel_rfl
  case hr => kernel_rfl
  case hQ => exact fun _ _ _ h => h
  case hy => (refine Or.inl ⟨by rfl, ?_⟩; (intro w' hSw; (try dsimp only at hSw); go_simp) <;> with_reducible rfl)
  case hS => assumption
  try simp only [Act.put, List.setIfInBounds_toArray, List.set_cons_zero, List.set_cons_succ]
  apply wpAnyH_take (i := 16)
  case hi => (simp only [List.getElem?_toArray, List.getElem?_cons_succ, List.getElem?_cons_zero]; rfl)
  case hs => kernel_rfl
  case hf => kernel_rfl
  case hr => kernel_rfl
  case hQ => exact fun _ _ _ h => h
  case hy => (refine Or.inl ⟨by rfl, ?_⟩; (intro w' hSw; (try dsimp only at hSw); go_simp) <;> with_reducible rfl)
  case hS => assumption
  try simp only [Act.put, List.setIfInBounds_toArray, List.set_cons_zero, List.set_cons_succ]
  apply wpAnyH_take (i := 17)
  case hi => (simp only [List.getElem?_toArray, List.getElem?_cons_succ, List.getElem?_cons_zero]; rfl)
  case hs => kernel_rfl
  case hf => kernel_rfl
  case hr => kernel_rfl
  case hQ => exact fun _ _ _ h => h
  case hy => (refine Or.inl ⟨by rfl, ?_⟩; (intro w' hSw; (try dsimp only at hSw); go_simp) <;> with_reducible rfl)
  case hS => assumption
  try simp only [Act.put, List.setIfInBounds_toArray, List.set_cons_zero, List.set_cons_succ]
  apply wpAnyH_take (i := 19)
  case hi => (simp only [List.getElem?_toArray, List.getElem?_cons_succ, List.getElem?_cons_zero]; rfl)
  case hs => kernel_rfl
  case hf => kernel_rfl
  case hr => kernel_rfl
  case hQ => exact fun _ _ _ h => h
  case hy => (refine Or.inl ⟨by rfl, ?_⟩; (intro w' hSw; (try dsimp only at hSw); go_simp) <;> with_reducible rfl)
  case hS => assumption
  try simp only [Act.put, List.setIfInBounds_toArray, List.set_cons_zero, List.set_cons_succ]
  refine wpAnyH_ready (rs := [18]) (by kernel_rfl) (by simp) ?_
  apply AllReadyH.cons
  case ho => (simp only [List.getElem?_toArray, List.getElem?_cons_succ, List.getElem?_cons_zero]; rfl)
  case hs => exact AllReadyH.nil
  intro K hK
  go_simp
  (go_at_call 10; refine (HSh.out _ (HVz.out.kept KD)).mono ?_; rintro E18 Y18 ⟨rfl, J⟩; replace KD := KD.trans J; replace K1 := K1.trans J; replace K2 := K2.trans J; clear J)
  refine hK.out _ _ (by exact ⟨⟨HSc.out _ KD, HC1.out _ K1⟩, HC2.out _ K2⟩) (fun hHeld => ?_)
  clear hK K
  try simp only [Act.put, List.setIfInBounds_toArray, List.set_cons_zero, List.set_cons_succ]
  refine wpAnyH_ready (rs := [20]) (by kernel_rfl) (by simp) ?_
  apply AllReadyH.cons
  case ho => (simp only [List.getElem?_toArray, List.getElem?_cons_succ, List.getElem?_cons_zero]; rfl)
  case hs => exact AllReadyH.nil
  intro K hK
  go_simp
  (go_at_call 14; refine (HOf.out e _).mono ?_; rintro E20 Y20 ⟨rfl, J⟩; replace KD := KD.trans J; replace K1 := K1.trans J; replace K2 := K2.trans J; clear J)
  refine hK.out _ _ (by exact ⟨⟨HSc.out _ KD, HC1.out _ K1⟩, HC2.out _ K2⟩) (fun hHeld => ?_)
  clear hK K
  try simp only [Act.put, List.setIfInBounds_toArray, List.set_cons_zero, List.set_cons_succ]
  refine wpAnyH_ready (rs := [21]) (by kernel_rfl) (by simp) ?_
  apply AllReadyH.cons
  case ho => (simp only [List.getElem?_toArray, List.getElem?_cons_succ, List.getElem?_cons_zero]; rfl)
  case hs => exact AllReadyH.nil
  intro K hK
  go_simp
  (go_at_call 16; refine (HRSh.out _).mono ?_; rintro E21 Y21 ⟨rfl, J⟩; replace KD := KD.trans J; replace K1 := K1.trans J; replace K2 := K2.trans J; clear J)
  refine hK.out _ _ (by exact ⟨⟨HSc.out _ KD, HC1.out _ K1⟩, HC2.out _ K2⟩) (fun hHeld => ?_)
  clear hK K
  try simp only [Act.put, List.setIfInBounds_toArray, List.set_cons_zero, List.set_cons_succ]
  apply wpAnyH_take (i := 22)
  case hi => (simp only [List.getElem?_toArray, List.getElem?_cons_succ, List.getElem?_cons_zero]; rfl)
  case hs => kernel_rfl
  case hf => kernel_rfl
  case hr => kernel_rfl
  case hQ => exact fun _ _ _ h => h
  case hy => (refine Or.inl ⟨by rfl, ?_⟩; (intro w' hSw; (try dsimp only at hSw); go_simp) <;> with_reducible rfl)
  case hS => assumption
  try simp only [Act.put, List.setIfInBounds_toArray, List.set_cons_zero, List.set_cons_succ]
  apply wpAnyH_take (i := 23)
  case hi => (simp only [List.getElem?_toArray, List.getElem?_cons_succ, List.getElem?_cons_zero]; rfl)
  case hs => kernel_rfl
  case hf => kernel_rfl
  case hr => kernel_rfl
  case hQ => exact fun _ _ _ h => h
  case hy => (refine Or.inl ⟨by rfl, ?_⟩; (intro w' hSw; (try dsimp only at hSw); go_simp) <;> with_reducible rfl)
  case hS => assumption
  try simp only [Act.put, List.setIfInBounds_toArray, List.set_cons_zero, List.set_cons_succ]
  apply wpAnyH_take (i := 24)
  case hi => (simp only [List.getElem?_toArray, List.getElem?_cons_succ, List.getElem?_cons_zero]; rfl)
  case hs => kernel_rfl
  case hf => kernel_rfl
  case hr => kernel_rfl
  case hQ => exact fun _ _ _ h => h
  case hy => (refine Or.inl ⟨by rfl, ?_⟩; (intro w' hSw; (try dsimp only at hSw); go_simp) <;> with_reducible rfl)
  case hS => assumption
  try simp only [Act.put, List.setIfInBounds_toArray, List.set_cons_zero, List.set_cons_succ]
  apply wpAnyH_take (i := 25)
  case hi => (simp only [List.getElem?_toArray, List.getElem?_cons_succ, List.getElem?_cons_zero]; rfl)
  case hs => kernel_rfl
  case hf => kernel_rfl
  case hr => kernel_rfl
  case hQ => exact fun _ _ _ h => h
  case hy => (refine Or.inl ⟨by rfl, ?_⟩; (intro w' hSw; (try dsimp only at hSw); go_simp) <;> with_reducible rfl)
  case hS => assumption
  try simp only [Act.put, List.setIfInBounds_toArray, List.set_cons_zero, List.set_cons_succ]
  apply wpAnyH_take (i := 26)
  case hi => (simp only [List.getElem?_toArray, List.getElem?_cons_succ, List.getElem?_cons_zero]; rfl)
  case hs => kernel_rfl
  case hf => kernel_rfl
  case hr => kernel_rfl
  case hQ => exact fun _ _ _ h => h
  case hy => (refine Or.inl ⟨by rfl, ?_⟩; (intro w' hSw; (try dsimp only at hSw); go_simp) <;> with_reducible rfl)
  case hS => assumption
  try simp only [Act.put, List.setIfInBounds_toArray, List.set_cons_zero, List.set_cons_succ]
  apply wpAnyH_take (i := 27)
  case hi => (simp only [List.getElem?_toArray, List.getElem?_cons_succ, List.getElem?_cons_zero]; rfl)
  case hs => kernel_rfl
  case hf => kernel_rfl
  case hr => kernel_rfl
  case hQ => exact fun _ _ _ h => h
  case hy => (refine Or.inl ⟨by rfl, ?_⟩; (intro w' hSw; (try dsimp only at hSw); go_simp) <;> with_reducible rfl)
  case hS => assumption
  try simp only [Act.put, List.setIfInBounds_toArray, List.set_cons_zero, List.set_cons_succ]
  apply wpAnyH_take (i := 28)
  case hi => (simp only [List.getElem?_toArray, List.getElem?_cons_succ, List.getElem?_cons_zero]; rfl)
  case hs => kernel_rfl
  case hf => kernel_rfl
  case hr => kernel_rfl
  case hQ => exact fun _ _ _ h => h
  case hy => (refine Or.inl ⟨by rfl, ?_⟩; (intro w' hSw; (try dsimp only at hSw); go_simp) <;> with_reducible rfl)
  case hS => assumption
  try simp only [Act.put, List.setIfInBounds_toArray, List.set_cons_zero, List.set_cons_succ]
  apply wpAnyH_take (i := 29)
  case hi => (simp only [List.getElem?_toArray, List.getElem?_cons_succ, List.getElem?_cons_zero]; rfl)
  case hs => kernel_rfl
  case hf => kernel_rfl
  case hr => kernel_rfl
  case hQ => exact fun _ _ _ h => h
  case hy => (refine Or.inl ⟨by rfl, ?_⟩; (intro w' hSw; (try dsimp only at hSw); go_simp) <;> with_reducible rfl)
  case hS => assumption
  try simp only [Act.put, List.setIfInBounds_toArray, List.set_cons_zero, List.set_cons_succ]
  apply wpAnyH_take (i := 30)
  case hi => (simp only [List.getElem?_toArray, List.getElem?_cons_succ, List.getElem?_cons_zero]; rfl)
  case hs => kernel_rfl
  case hf => kernel_rfl
  case hr => kernel_rfl
  case hQ => exact fun _ _ _ h => h
  case hy => (refine Or.inl ⟨by rfl, ?_⟩; (intro w' hSw; (try dsimp only at hSw); go_simp) <;> with_reducible rfl)
  case hS => assumption
  try simp only [Act.put, List.setIfInBounds_toArray, List.set_cons_zero, List.set_cons_succ]
  apply wpAnyH_take (i := 32)
  case hi => (simp only [List.getElem?_toArray, List.getElem?_cons_succ, List.getElem?_cons_zero]; rfl)
  case hs => kernel_rfl
  case hf => kernel_rfl
  case hr => kernel_rfl
  case hQ => exact fun _ _ _ h => h
  case hy => (refine Or.inl ⟨by rfl, ?_⟩; (intro w' hSw; (try dsimp only at hSw); go_simp) <;> with_reducible rfl)
  case hS => assumption
  try simp only [Act.put, List.setIfInBounds_toArray, List.set_cons_zero, List.set_cons_succ]
  refine wpAnyH_ready (rs := [31]) (by kernel_rfl) (by simp) ?_
  apply AllReadyH.cons
  case ho => (simp only [List.getElem?_toArray, List.getElem?_cons_succ, List.getElem?_cons_zero]; rfl)
  case hs => exact AllReadyH.nil
  intro K hK
  go_simp
  (go_at_call 14; refine (HOf.out x _).mono ?_; rintro E31 Y31 ⟨rfl, J⟩; replace KD := KD.trans J; replace K1 := K1.trans J; replace K2 := K2.trans J; clear J)
  refine hK.out _ _ (by exact ⟨⟨HSc.out _ KD, HC1.out _ K1⟩, HC2.out _ K2⟩) (fun hHeld => ?_)
  clear hK K
  try simp only [Act.put, List.setIfInBounds_toArray, List.set_cons_zero, List.set_cons_succ]
  apply wpAnyH_take (i := 33)
  case hi => (simp only [List.getElem?_toArray, List.getElem?_cons_succ, List.getElem?_cons_zero]; rfl)
  case hs => kernel_rfl
  case hf => kernel_rfl
  case hr => kernel_rfl
  case hQ => exact fun _ _ _ h => h
  case hy => (refine Or.inl ⟨by rfl, ?_⟩; (intro w' hSw; (try dsimp only at hSw); go_simp) <;> with_reducible rfl)
  case hS => assumption
  try simp only [Act.put, List.setIfInBounds_toArray, List.set_cons_zero, List.set_cons_succ]
  apply wpAnyH_take (i := 34)
  case hi => (simp only [List.getElem?_toArray, List.getElem?_cons_succ, List.getElem?_cons_zero]; rfl)
  case hs => kernel_rfl
  case hf => kernel_rfl
  case hr => kernel_rfl
  case hQ => exact fun _ _ _ h => h
  case hy => (refine Or.inl ⟨by rfl, ?_⟩; (intro w' hSw; (try dsimp only at hSw); go_simp) <;> with_reducible rfl)
  case hS => assumption
  try simp only [Act.put, List.setIfInBounds_toArray, List.set_cons_zero, List.set_cons_succ]
  apply wpAnyH_take (i := 35)
  case hi => (simp only [List.getElem?_toArray, List.getElem?_cons_succ, List.getElem?_cons_zero]; rfl)
  case hs => kernel_rfl
  case hf => kernel_rfl
  case hr => kernel_rfl
  case hQ => exact fun _ _ _ h => h
  case hy => (refine Or.inl ⟨by rfl, ?_⟩; (intro w' hSw; (try dsimp only at hSw); go_simp) <;> with_reducible rfl)
  case hS => assumption
  try simp only [Act.put, List.setIfInBounds_toArray, List.set_cons_zero, List.set_cons_succ]
  refine wpAnyH_done (by kernel_rfl) ?_ _
  go_wp2
  go_ret
  exact ⟨rfl, HK.out.trans KD⟩
end Go.Proofs.YteaepgbakcifkaaDoor
