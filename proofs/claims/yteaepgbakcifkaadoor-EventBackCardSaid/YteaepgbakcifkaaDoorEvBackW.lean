/- EventBack: the walk. -/
import Derived.Test.YteaepgbakcifkaaDoorEvSameW
import Derived.Deep.CutRange
set_option linter.unusedVariables false
set_option linter.unusedSimpArgs false
namespace Go.Proofs.YteaepgbakcifkaaDoor
open Go.RowKit
/-- a first part of what was written is not read -/
theorem cut_bad {e : EV} (h : goodE e = true) (k : Nat) (hk : k < (encEv e).length) : (getE ((encEv e).take k)).2 = 2 := by
  have hB := (encEv_ok e h).1
  have hBt : IsB ((encEv e).take k) := isB_of_mem fun x hx => isB_mem hB x (List.mem_of_mem_take hx)
  by_cases hz : (getE ((encEv e).take k)).2 = 0
  · exfalso
    obtain ⟨g1, g2⟩ := resG_back gtF_ok hBt (show (resG gtF ((encEv e).take k)).2 = 0 from hz)
    generalize (resG gtF ((encEv e).take k)).1 = d at g1 g2
    -- what was written begins with what d is written as
    have hsp : encEv e = encEv d ++ (encEv e).drop k := by rw [← g2, List.take_append_drop]
    obtain ⟨d1, -, d3⟩ := (goodE_iff d).1 g1
    obtain ⟨e1, e2, e3⟩ := (goodE_iff e).1 h
    have hkd := flds_kind d1
    have hke := flds_kind e1
    have hfe := getG_fwd gtF_ok e hke [] (flds e.k) (flds_ltr e.k) e3 []
    have hfd := getG_fwd gtF_ok d hkd [] (flds d.k) (flds_ltr d.k) d3 ((encEv e).drop k)
    have hK1 : getK (encEv e) = e.k := by
      have := stSmall_enc e.k 9 ((flds e.k).flatMap (encFld e)) (by omega) (by omega) (by omega)
      unfold getK encEv encL
      rw [this]
    have hK2 : getK (encEv e) = d.k := by
      have := stSmall_enc d.k 9 ((flds d.k).flatMap (encFld d) ++ (encEv e).drop k) (by omega) (by omega) (by omega)
      rw [hsp]
      unfold getK
      rw [show encEv d ++ (encEv e).drop k = encU d.k ++ ((flds d.k).flatMap (encFld d) ++ (encEv e).drop k) by unfold encEv encL; rw [List.append_assoc], this]
    have hkk : d.k = e.k := hK2.symm.trans hK1
    rw [List.append_nil] at hfe
    rw [show encL d (flds d.k) ++ (encEv e).drop k = encEv e from hsp.symm, hkk] at hfd
    rw [show encL e (flds e.k) = encEv e from rfl] at hfe
    rw [hfe] at hfd
    have : (encEv e).drop k = [] := by
      simp only [Prod.mk.injEq, and_true] at hfd
      exact hfd.2.symm
    have hlen := congrArg List.length this
    rw [List.length_drop] at hlen
    simp at hlen
    omega
  · unfold getE at hz ⊢
    split
    · rename_i hc
      rw [if_pos hc] at hz
      exact absurd rfl hz
    · rfl
/-- what is read of any bytes -/
theorem getE_two (zs : List Int) (hB : IsB zs) : getE zs = (kindE 0, 2) ∨ (goodE (getE zs).1 = true ∧ (getE zs).2 = 0 ∧ zs = encEv (getE zs).1) := by
  by_cases h : getOk zs = true
  · have h0 : (getE zs).2 = 0 := by unfold getE; rw [if_pos h]
    obtain ⟨g1, g2⟩ := resG_back gtF_ok hB (show (resG gtF zs).2 = 0 from h0)
    exact .inr ⟨g1, h0, g2⟩
  · left; unfold getE; rw [if_neg h]
set_option maxRecDepth 100000 in
set_option maxHeartbeats 8000000 in
theorem evBack_big (e : EV) (a : Option Addr) (n c : Nat) (cut : Int) {w : World} (hv : EvV w) (h : 1000 < e.dt.size ∨ 1200 < n) : Calls Tryd.prog 5 #[evV e, .slice a n c, .int .i64 cut] w fun E w' => E = .returned (.bool true) ∧ Kept w w' := by
  have hX := heap_alloc_new w (evO e)
  have hK := kept_alA w (evO e)
  have HAw := Lib.hid (ev_awake (hv.kept hK))
  have HX := Lib.hid hX
  have HK := Lib.hid hK
  clear hX hK hv
  have hcase : ((1000 : Int) < e.dt.size) ∨ ((e.dt.size : Int) ≤ 1000 ∧ (1200 : Int) < n) := by omega
  clear h
  rcases hcase with h | ⟨h, h2⟩
  all_goals
    go_enter Tryd.func5, Tryd.ntmps5
    go_wp2_with fail
    refine HAw.out.mono ?_
    rintro E X ⟨rfl, hK1⟩
    obtain ⟨a0, a1, a2, a3, a4, a5, a6, a7⟩ := ev_cells (hK1.only.heap HX.out (by simp))
    have HK1 := Lib.hid (HK.out.trans hK1)
    clear hK1
    go_wp2_with fail
    go_ret
    exact ⟨rfl, HK1.out⟩
set_option maxRecDepth 100000 in
set_option maxHeartbeats 16000000 in
theorem evBack (e : EV) (a : Option Addr) (n c : Nat) (zs : List Int) (cut : Int) (hc0 : -9223372036854775808 ≤ cut) (hc1 : cut ≤ 9223372036854775807) {w : World} (hv : EvV w) (hS : Sl .u8 w a n c zs) (hB : IsB zs) (h3 : e.dt.size ≤ 1000) (h4 : n ≤ 1200) : Calls Tryd.prog 5 #[evV e, .slice a n c, .int .i64 cut] w fun E w' => E = .returned (.bool true) ∧ Kept w w' := by
  have hX := heap_alloc_new w (evO e)
  have hK := kept_alA w (evO e)
  have HAw := Lib.hid (ev_awake (hv.kept hK))
  have HX := Lib.hid hX
  have HK := Lib.hid hK
  have HS := Lib.hid (hK.sl hS)
  have HGet := Lib.hid (fun W (h : Sl .u8 W a n c zs) => ev_get a n c zs W h hB (by omega))
  have HG := Lib.hid (fun W => ev_good e W)
  have HP := Lib.hid (fun W => ev_put e W)
  have HTwo := Lib.hid (getE_two zs hB)
  have HPe : Hid (goodE e = true → putE e = encEv e) := fun h => by unfold putE; rw [if_pos h]
  have HPn : Hid (goodE e = true → IsB (putE e) ∧ 0 < (putE e).length ∧ (putE e).length ≤ 1024 ∧ getE (putE e) = (e, 0) ∧ ∀ k, k < (putE e).length → (getE ((putE e).take k)).2 = 2) := fun h => by
    rw [HPe.out h]
    exact ⟨(encEv_ok e h).1, (encEv_ok e h).2.1, (encEv_ok e h).2.2, getE_enc h, fun k hk => cut_bad h k hk⟩
  have HQN := Lib.hid (fun W => run_eqEN e e W)
  rw [decide_eq_true rfl] at HQN
  have g3 : (e.dt.size : Int) ≤ 1000 := by omega
  have g4 : (n : Int) ≤ 1200 := by omega
  clear hX hK hv hS hB h3 h4 HPe
  go_enter Tryd.func5, Tryd.ntmps5
  go_wp2_with fail
  refine HAw.out.mono ?_
  rintro E X ⟨rfl, hK1⟩
  replace HX := Lib.hid (hK1.only.heap HX.out (by simp))
  replace HK := Lib.hid (HK.out.trans hK1)
  replace HS := Lib.hid (hK1.sl HS.out)
  clear hK1 HAw
  generalize hq : w.heap.size = q at *
  clear hq
  obtain ⟨a0, a1, a2, a3, a4, a5, a6, a7⟩ := ev_cells HX.out
  go_wp2_with fail
  refine (HP.out _).mono ?_
  rintro E V1 ⟨pa, pn, pc, rfl, hPS, hK1⟩
  replace HX := Lib.hid (hK1.only.heap HX.out (by simp))
  replace HK := Lib.hid (HK.out.trans hK1)
  replace HS := Lib.hid (hK1.sl HS.out)
  have HPS := Lib.hid hPS
  have hpl : (putE e).length = pn := hPS.1
  have hpc : pn ≤ pc := hPS.2.1
  rw [hpl] at HPn
  clear hK1 hPS a0 a1 a2 a3 a4 a5 a6 a7 HP
  have HPL := Lib.hid hpl
  clear hpl
  generalize putE e = pe at *
  generalize hge : goodE e = ge at *
  obtain ⟨a0, a1, a2, a3, a4, a5, a6, a7⟩ := ev_cells HX.out
  go_wp2_with fail
  refine (HG.out _).mono ?_
  rintro E V2 ⟨rfl, hK1⟩
  replace HX := Lib.hid (hK1.only.heap HX.out (by simp))
  replace HK := Lib.hid (HK.out.trans hK1)
  replace HS := Lib.hid (hK1.sl HS.out)
  replace HPS := Lib.hid (hK1.sl HPS.out)
  clear hK1 a0 a1 a2 a3 a4 a5 a6 a7 HG hge
  obtain ⟨a0, a1, a2, a3, a4, a5, a6, a7⟩ := ev_cells HX.out
  go_upto_if 28 with fail
  go_cut [8, 9, 10, 11] from 29 to 67 (fun v8 v9 v10 v11 wx => Hid (Kept V2 wx))
  case first =>
    cases ge with
    | false =>
      go_wp2_with fail
      go_meet
      case rel => exact Kept.refl _
    | true =>
      obtain ⟨hb, hn0, hn1, hge, hcut⟩ := HPn.out (by simp)
      have HGe := Lib.hid (show Calls Tryd.prog 11 #[.slice pa pn pc] V2 fun E w' => E = .returned (.tuple #[evV e, .int .i64 0]) ∧ Kept V2 w' from by
        have := ev_get pa pn pc pe V2 HPS.out hb (by omega)
        rw [hge] at this
        exact this)
      have HCut := Lib.hid hcut
      have HB := Lib.hid hb
      have n0 : (0 : Int) < pn := by omega
      have nz : ((pn : Int) == 0) = false := by rw [beq_eq_false_iff_ne]; omega
      have n1 : (pn : Int) ≤ 1024 := by omega
      clear hb hn0 hge hcut HPn
      go_wp2_with fail
      refine HGe.out.mono ?_
      rintro E V3 ⟨rfl, hK1⟩
      have HX3 := Lib.hid (heap_keep (hK1.only.heap HX.out (by simp)) (evO e))
      have HY3 := Lib.hid (heap_alloc_new V3 (evO e))
      have HK3 := Lib.hid (hK1.trans (kept_alA V3 (evO e)))
      clear hK1 a0 a1 a2 a3 a4 a5 a6 a7 HGe
      obtain ⟨a0, a1, a2, a3, a4, a5, a6, a7⟩ := ev_cells HX3.out
      obtain ⟨b0, b1, b2, b3, b4, b5, b6, b7⟩ := ev_cells HY3.out
      have hqn := HQN.out
      by_cases hcr : 0 ≤ cut ∧ cut < pn
      · obtain ⟨r0, r1⟩ := hcr
        obtain ⟨k, hk⟩ := Int.eq_ofNat_of_zero_le r0
        have hkn : k < pn := by omega
        have hrun := fun W => run_cut_h elemB pa pn pc .i64 k cut hk (by omega) W
        have HG4 := Lib.hid (fun W (K : Kept V2 W) => (by
          have hSl := sl_take (K.sl HPS.out) k (by omega)
          have hB2 : IsB (pe.take k) := isB_of_mem fun x hx => isB_mem HB.out x (List.mem_of_mem_take hx)
          have h := ev_get pa k pc (pe.take k) W hSl hB2 (by omega)
          rw [HCut.out k hkn] at h
          exact h : Calls Tryd.prog 11 #[.slice pa k pc] W fun E w' => E = .returned (.tuple #[evV (getE (pe.take k)).1, .int .i64 2]) ∧ Kept W w'))
        generalize (getE (pe.take k)).1 = z at HG4
        clear hk
        go_wp2_with fail
        refine (HG4.out _ HK3.out).mono ?_
        rintro E V4 ⟨rfl, hK1⟩
        have HK4 := Lib.hid ((HK3.out.trans hK1).trans (kept_alA V4 (evO z)))
        clear hK1 a0 a1 a2 a3 a4 a5 a6 a7 b0 b1 b2 b3 b4 b5 b6 b7
        go_wp2_with fail
        go_meet
        case rel => exact HK4
      · have hcr2 : cut < 0 ∨ (0 ≤ cut ∧ (pn : Int) ≤ cut) := by omega
        clear hcr
        rcases hcr2 with r | ⟨r, r2⟩
        · go_wp2_with fail
          go_meet
          case rel => exact HK3
        · go_wp2_with fail
          go_meet
          case rel => exact HK3
  case rest =>
  have HS5 := Lib.hid (hcut.out.sl HS.out)
  have HK5 := Lib.hid (HK.out.trans hcut.out)
  clear a0 a1 a2 a3 a4 a5 a6 a7 HX HPn HPS HQN HPL hpc HS HK
  go_wp2_with fail
  refine (HGet.out _ HS5.out).mono ?_
  rintro E V6 ⟨rfl, hK1⟩
  rcases HTwo.out with h | ⟨hg, hz, hzs⟩
  · rw [h]
    obtain ⟨z, hzk⟩ : ∃ z, kindE 0 = z := ⟨_, rfl⟩
    have hq0 : ∀ W : World, (binOp .eql 24 (evV z) (.agg #[.int .i64 0, .int .i64 0, .int .i64 0, .int .i64 0, .int .i64 0, .string ⟨#[]⟩, .string ⟨#[]⟩, .string ⟨#[]⟩])).run Tryd.prog W = .ok (.bool true) W := fun W => by
      subst hzk
      have h := run_eqE (kindE 0) (kindE 0) W
      rw [decide_eq_true rfl] at h
      exact h
    rw [hzk]
    have HY := Lib.hid (heap_alloc_new V6 (evO z))
    have HK6 := Lib.hid ((HK5.out.trans hK1).trans (kept_alA V6 (evO z)))
    clear hK1 HK5 HS5 HGet HTwo h hzk
    obtain ⟨b0, b1, b2, b3, b4, b5, b6, b7⟩ := ev_cells HY.out
    go_wp2_with fail
    go_quiet (fail)
    go_wp2_with fail
    go_ret
    exact ⟨rfl, HK6.out.trans (by (unfold Kept; repeat (first | exact Below.refl _ _ | assumption | (refine Below.alloc ?_ (by simp) _) | (refine Below.setCell ?_ (by simp) _) | (refine Below.drew ?_) | (refine _root_.Go.below_drewN ?_ _))))⟩
  · rw [hz]
    have hPz : putE (getE zs).1 = zs := by unfold putE; rw [if_pos hg]; exact hzs.symm
    generalize (getE zs).1 = y at *
    have HY := Lib.hid (heap_alloc_new V6 (evO y))
    have HK6 := Lib.hid ((HK5.out.trans hK1).trans (kept_alA V6 (evO y)))
    have HS6 := Lib.hid ((hK1.trans (kept_alA V6 (evO y))).sl HS5.out)
    have HG := Lib.hid (fun W => ev_good y W)
    rw [hg] at HG
    have HP := Lib.hid (fun W => ev_put y W)
    rw [hPz] at HP
    clear hK1 HK5 HS5 HGet HTwo hz hzs hg hPz
    go_wp2_with fail
    generalize hZ : V6.alloc (.cells #[.int .i64 y.k, .int .i64 y.r, .int .i64 y.t, .int .i64 y.y, .int .i64 y.n, .string y.nm, .string y.ky, .string y.dt] 24 (0, 0)) = Z
    rw [show V6.alloc (evO y) = Z from hZ] at HY HK6 HS6
    clear hZ
    generalize V6.heap.size = q7 at *
    have HSc : Hid (∀ w', Kept Z w' → (w'.cell? ⟨q7, 0, none⟩ = some (.int .i64 y.k) ∧ w'.cell? ⟨q7, 1, none⟩ = some (.int .i64 y.r) ∧ w'.cell? ⟨q7, 2, none⟩ = some (.int .i64 y.t) ∧ w'.cell? ⟨q7, 3, none⟩ = some (.int .i64 y.y) ∧ w'.cell? ⟨q7, 4, none⟩ = some (.int .i64 y.n) ∧ w'.cell? ⟨q7, 5, none⟩ = some (.string y.nm) ∧ w'.cell? ⟨q7, 6, none⟩ = some (.string y.ky) ∧ w'.cell? ⟨q7, 7, none⟩ = some (.string y.dt)) ∧ (convert 27 9 (.slice a n c)).run Tryd.prog w' = .ok (.string (strOf zs)) w') := fun V k => ⟨ev_cells (k.only.heap HY.out (by simp)), run_conv (k.sl HS6.out)⟩
    have KD : Kept Z Z.drew := by (unfold Kept; repeat (first | exact Below.refl _ _ | assumption | (refine Below.alloc ?_ (by simp) _) | (refine Below.setCell ?_ (by simp) _) | (refine Below.drew ?_) | (refine _root_.Go.below_drewN ?_ _)))
    refine wp_region_held_drew (S := (fun w' => (w'.cell? ⟨q7, 0, none⟩ = some (.int .i64 y.k) ∧ w'.cell? ⟨q7, 1, none⟩ = some (.int .i64 y.r) ∧ w'.cell? ⟨q7, 2, none⟩ = some (.int .i64 y.t) ∧ w'.cell? ⟨q7, 3, none⟩ = some (.int .i64 y.y) ∧ w'.cell? ⟨q7, 4, none⟩ = some (.int .i64 y.n) ∧ w'.cell? ⟨q7, 5, none⟩ = some (.string y.nm) ∧ w'.cell? ⟨q7, 6, none⟩ = some (.string y.ky) ∧ w'.cell? ⟨q7, 7, none⟩ = some (.string y.dt)) ∧ (convert 27 9 (.slice a n c)).run Tryd.prog w' = .ok (.string (strOf zs)) w')) (by kernel_rfl) (by exact HSc.out _ KD) (fun hHeld => ?_)
    apply wpAnyH_take (i := 0)
    case hi => (simp only [List.getElem?_toArray, List.getElem?_cons_succ, List.getElem?_cons_zero]; rfl)
    case hs => kernel_rfl
    case hf => kernel_rfl
    case hr => kernel_rfl
    case hQ => exact fun _ _ _ h => h
    case hy => (refine Or.inl ⟨by rfl, ?_⟩; (intro w' hSw; (try dsimp only at hSw); go_simp) <;> with_reducible rfl)
    case hS => assumption
    try simp only [Act.put, List.setIfInBounds_toArray, List.set_cons_zero, List.set_cons_succ]
    apply wpAnyH_take (i := 1)
    case hi => (simp only [List.getElem?_toArray, List.getElem?_cons_succ, List.getElem?_cons_zero]; rfl)
    case hs => kernel_rfl
    case hf => kernel_rfl
    case hr => kernel_rfl
    case hQ => exact fun _ _ _ h => h
    case hy => (refine Or.inl ⟨by rfl, ?_⟩; (intro w' hSw; (try dsimp only at hSw); go_simp) <;> with_reducible rfl)
    case hS => assumption
    try simp only [Act.put, List.setIfInBounds_toArray, List.set_cons_zero, List.set_cons_succ]
    apply wpAnyH_take (i := 2)
    case hi => (simp only [List.getElem?_toArray, List.getElem?_cons_succ, List.getElem?_cons_zero]; rfl)
    case hs => kernel_rfl
    case hf => kernel_rfl
    case hr => kernel_rfl
    case hQ => exact fun _ _ _ h => h
    case hy => (refine Or.inl ⟨by rfl, ?_⟩; (intro w' hSw; (try dsimp only at hSw); go_simp) <;> with_reducible rfl)
    case hS => assumption
    try simp only [Act.put, List.setIfInBounds_toArray, List.set_cons_zero, List.set_cons_succ]
    apply wpAnyH_take (i := 3)
    case hi => (simp only [List.getElem?_toArray, List.getElem?_cons_succ, List.getElem?_cons_zero]; rfl)
    case hs => kernel_rfl
    case hf => kernel_rfl
    case hr => kernel_rfl
    case hQ => exact fun _ _ _ h => h
    case hy => exact Or.inr ⟨by rfl, rfl⟩
    case hS => assumption
    try simp only [Act.put, List.setIfInBounds_toArray, List.set_cons_zero, List.set_cons_succ]
    apply wpAnyH_take (i := 4)
    case hi => (simp only [List.getElem?_toArray, List.getElem?_cons_succ, List.getElem?_cons_zero]; rfl)
    case hs => kernel_rfl
    case hf => kernel_rfl
    case hr => kernel_rfl
    case hQ => exact fun _ _ _ h => h
    case hy => exact Or.inr ⟨by rfl, rfl⟩
    case hS => assumption
    try simp only [Act.put, List.setIfInBounds_toArray, List.set_cons_zero, List.set_cons_succ]
    apply wpAnyH_take (i := 5)
    case hi => (simp only [List.getElem?_toArray, List.getElem?_cons_succ, List.getElem?_cons_zero]; rfl)
    case hs => kernel_rfl
    case hf => kernel_rfl
    case hr => kernel_rfl
    case hQ => exact fun _ _ _ h => h
    case hy => exact Or.inr ⟨by rfl, rfl⟩
    case hS => assumption
    try simp only [Act.put, List.setIfInBounds_toArray, List.set_cons_zero, List.set_cons_succ]
    apply wpAnyH_take (i := 6)
    case hi => (simp only [List.getElem?_toArray, List.getElem?_cons_succ, List.getElem?_cons_zero]; rfl)
    case hs => kernel_rfl
    case hf => kernel_rfl
    case hr => kernel_rfl
    case hQ => exact fun _ _ _ h => h
    case hy => (refine Or.inl ⟨by rfl, ?_⟩; (intro w' hSw; (try dsimp only at hSw); go_simp) <;> with_reducible rfl)
    case hS => assumption
    try simp only [Act.put, List.setIfInBounds_toArray, List.set_cons_zero, List.set_cons_succ]
    apply wpAnyH_take (i := 7)
    case hi => (simp only [List.getElem?_toArray, List.getElem?_cons_succ, List.getElem?_cons_zero]; rfl)
    case hs => kernel_rfl
    case hf => kernel_rfl
    case hr => kernel_rfl
    case hQ => exact fun _ _ _ h => h
    case hy => (refine Or.inl ⟨by rfl, ?_⟩; (intro w' hSw; (try dsimp only at hSw); go_simp) <;> with_reducible rfl)
    case hS => assumption
    try simp only [Act.put, List.setIfInBounds_toArray, List.set_cons_zero, List.set_cons_succ]
    apply wpAnyH_take (i := 8)
    case hi => (simp only [List.getElem?_toArray, List.getElem?_cons_succ, List.getElem?_cons_zero]; rfl)
    case hs => kernel_rfl
    case hf => kernel_rfl
    case hr => kernel_rfl
    case hQ => exact fun _ _ _ h => h
    case hy => (refine Or.inl ⟨by rfl, ?_⟩; (intro w' hSw; (try dsimp only at hSw); go_simp) <;> with_reducible rfl)
    case hS => assumption
    try simp only [Act.put, List.setIfInBounds_toArray, List.set_cons_zero, List.set_cons_succ]
    apply wpAnyH_take (i := 9)
    case hi => (simp only [List.getElem?_toArray, List.getElem?_cons_succ, List.getElem?_cons_zero]; rfl)
    case hs => kernel_rfl
    case hf => kernel_rfl
    case hr => kernel_rfl
    case hQ => exact fun _ _ _ h => h
    case hy => (refine Or.inl ⟨by rfl, ?_⟩; (intro w' hSw; (try dsimp only at hSw); go_simp) <;> with_reducible rfl)
    case hS => assumption
    try simp only [Act.put, List.setIfInBounds_toArray, List.set_cons_zero, List.set_cons_succ]
    apply wpAnyH_take (i := 10)
    case hi => (simp only [List.getElem?_toArray, List.getElem?_cons_succ, List.getElem?_cons_zero]; rfl)
    case hs => kernel_rfl
    case hf => kernel_rfl
    case hr => kernel_rfl
    case hQ => exact fun _ _ _ h => h
    case hy => (refine Or.inl ⟨by rfl, ?_⟩; (intro w' hSw; (try dsimp only at hSw); go_simp) <;> with_reducible rfl)
    case hS => assumption
    try simp only [Act.put, List.setIfInBounds_toArray, List.set_cons_zero, List.set_cons_succ]
    apply wpAnyH_take (i := 11)
    case hi => (simp only [List.getElem?_toArray, List.getElem?_cons_succ, List.getElem?_cons_zero]; rfl)
    case hs => kernel_rfl
    case hf => kernel_rfl
    case hr => kernel_rfl
    case hQ => exact fun _ _ _ h => h
    case hy => (refine Or.inl ⟨by rfl, ?_⟩; (intro w' hSw; (try dsimp only at hSw); go_simp) <;> with_reducible rfl)
    case hS => assumption
    try simp only [Act.put, List.setIfInBounds_toArray, List.set_cons_zero, List.set_cons_succ]
    refine wpAnyH_ready (rs := [12]) (by kernel_rfl) (by simp) ?_
    apply AllReadyH.cons
    case ho => (simp only [List.getElem?_toArray, List.getElem?_cons_succ, List.getElem?_cons_zero]; rfl)
    case hs => exact AllReadyH.nil
    intro K hK
    go_simp
    (go_at_call 8; refine (HG.out _).mono ?_; rintro E12 Y12 ⟨rfl, J⟩; replace KD := KD.trans J; clear J)
    refine hK.out _ _ (by exact HSc.out _ KD) (fun hHeld => ?_)
    clear hK K
    try simp only [Act.put, List.setIfInBounds_toArray, List.set_cons_zero, List.set_cons_succ]
    apply wpAnyH_take (i := 13)
    case hi => (simp only [List.getElem?_toArray, List.getElem?_cons_succ, List.getElem?_cons_zero]; rfl)
    case hs => kernel_rfl
    case hf => kernel_rfl
    case hr => kernel_rfl
    case hQ => exact fun _ _ _ h => h
    case hy => (refine Or.inl ⟨by rfl, ?_⟩; (intro w' hSw; (try dsimp only at hSw); go_simp) <;> with_reducible rfl)
    case hS => assumption
    try simp only [Act.put, List.setIfInBounds_toArray, List.set_cons_zero, List.set_cons_succ]
    apply wpAnyH_take (i := 14)
    case hi => (simp only [List.getElem?_toArray, List.getElem?_cons_succ, List.getElem?_cons_zero]; rfl)
    case hs => kernel_rfl
    case hf => kernel_rfl
    case hr => kernel_rfl
    case hQ => exact fun _ _ _ h => h
    case hy => (refine Or.inl ⟨by rfl, ?_⟩; (intro w' hSw; (try dsimp only at hSw); go_simp) <;> with_reducible rfl)
    case hS => assumption
    try simp only [Act.put, List.setIfInBounds_toArray, List.set_cons_zero, List.set_cons_succ]
    apply wpAnyH_take (i := 15)
    case hi => (simp only [List.getElem?_toArray, List.getElem?_cons_succ, List.getElem?_cons_zero]; rfl)
    case hs => kernel_rfl
    case hf => kernel_rfl
    case hr => kernel_rfl
    case hQ => exact fun _ _ _ h => h
    case hy => (refine Or.inl ⟨by rfl, ?_⟩; (intro w' hSw; (try dsimp only at hSw); go_simp) <;> with_reducible rfl)
    case hS => assumption
    try simp only [Act.put, List.setIfInBounds_toArray, List.set_cons_zero, List.set_cons_succ]
    apply wpAnyH_take (i := 18)
    case hi => (simp only [List.getElem?_toArray, List.getElem?_cons_succ, List.getElem?_cons_zero]; rfl)
    case hs => kernel_rfl
    case hf => kernel_rfl
    case hr => kernel_rfl
    case hQ => exact fun _ _ _ h => h
    case hy => (refine Or.inl ⟨by rfl, ?_⟩; (intro w' hSw; (try dsimp only at hSw); go_simp) <;> with_reducible rfl)
    case hS => assumption
    try simp only [Act.put, List.setIfInBounds_toArray, List.set_cons_zero, List.set_cons_succ]
    apply wpAnyH_take (i := 19)
    case hi => (simp only [List.getElem?_toArray, List.getElem?_cons_succ, List.getElem?_cons_zero]; rfl)
    case hs => kernel_rfl
    case hf => kernel_rfl
    case hr => kernel_rfl
    case hQ => exact fun _ _ _ h => h
    case hy => (refine Or.inl ⟨by rfl, ?_⟩; (intro w' hSw; (try dsimp only at hSw); go_simp) <;> with_reducible rfl)
    case hS => assumption
    try simp only [Act.put, List.setIfInBounds_toArray, List.set_cons_zero, List.set_cons_succ]
    refine wpAnyH_ready (rs := [16]) (by kernel_rfl) (by simp) ?_
    apply AllReadyH.cons
    case ho => (simp only [List.getElem?_toArray, List.getElem?_cons_succ, List.getElem?_cons_zero]; rfl)
    case hs => exact AllReadyH.nil
    intro K hK
    go_simp
    (go_at_call 9; refine (HP.out _).mono ?_; rintro E16 Y16 ⟨a1, n1, c1, rfl, hS1, J⟩; replace KD := KD.trans J; have HS1 := Lib.hid hS1; clear hS1 J)
    refine hK.out _ _ (by exact HSc.out _ KD) (fun hHeld => ?_)
    clear hK K
    try simp only [Act.put, List.setIfInBounds_toArray, List.set_cons_zero, List.set_cons_succ]
    have K1 : Kept Y16 Y16 := Kept.refl _
    have HC1 := Lib.hid (fun V (k : Kept Y16 V) => run_conv (k.sl HS1.out))
    refine wpAnyH_strong (S' := (fun w' => ((w'.cell? ⟨q7, 0, none⟩ = some (.int .i64 y.k) ∧ w'.cell? ⟨q7, 1, none⟩ = some (.int .i64 y.r) ∧ w'.cell? ⟨q7, 2, none⟩ = some (.int .i64 y.t) ∧ w'.cell? ⟨q7, 3, none⟩ = some (.int .i64 y.y) ∧ w'.cell? ⟨q7, 4, none⟩ = some (.int .i64 y.n) ∧ w'.cell? ⟨q7, 5, none⟩ = some (.string y.nm) ∧ w'.cell? ⟨q7, 6, none⟩ = some (.string y.ky) ∧ w'.cell? ⟨q7, 7, none⟩ = some (.string y.dt)) ∧ (convert 27 9 (.slice a n c)).run Tryd.prog w' = .ok (.string (strOf zs)) w') ∧ (convert 27 9 (.slice a1 n1 c1)).run Tryd.prog w' = .ok (.string (strOf zs)) w')) (fun _ h => h.1) _ _ _ _ ?_
    replace hHeld : (fun w' => ((w'.cell? ⟨q7, 0, none⟩ = some (.int .i64 y.k) ∧ w'.cell? ⟨q7, 1, none⟩ = some (.int .i64 y.r) ∧ w'.cell? ⟨q7, 2, none⟩ = some (.int .i64 y.t) ∧ w'.cell? ⟨q7, 3, none⟩ = some (.int .i64 y.y) ∧ w'.cell? ⟨q7, 4, none⟩ = some (.int .i64 y.n) ∧ w'.cell? ⟨q7, 5, none⟩ = some (.string y.nm) ∧ w'.cell? ⟨q7, 6, none⟩ = some (.string y.ky) ∧ w'.cell? ⟨q7, 7, none⟩ = some (.string y.dt)) ∧ (convert 27 9 (.slice a n c)).run Tryd.prog w' = .ok (.string (strOf zs)) w') ∧ (convert 27 9 (.slice a1 n1 c1)).run Tryd.prog w' = .ok (.string (strOf zs)) w') Y16 := ⟨HSc.out _ KD, HC1.out _ K1⟩
    apply wpAnyH_take (i := 17)
    case hi => (simp only [List.getElem?_toArray, List.getElem?_cons_succ, List.getElem?_cons_zero]; rfl)
    case hs => kernel_rfl
    case hf => kernel_rfl
    case hr => kernel_rfl
    case hQ => exact fun _ _ _ h => h
    case hy => (refine Or.inl ⟨by rfl, ?_⟩; (intro w' hSw; (try dsimp only at hSw); go_simp) <;> with_reducible rfl)
    case hS => assumption
    try simp only [Act.put, List.setIfInBounds_toArray, List.set_cons_zero, List.set_cons_succ]
    apply wpAnyH_take (i := 20)
    case hi => (simp only [List.getElem?_toArray, List.getElem?_cons_succ, List.getElem?_cons_zero]; rfl)
    case hs => kernel_rfl
    case hf => kernel_rfl
    case hr => kernel_rfl
    case hQ => exact fun _ _ _ h => h
    case hy => (refine Or.inl ⟨by rfl, ?_⟩; (intro w' hSw; (try dsimp only at hSw); go_simp) <;> with_reducible rfl)
    case hS => assumption
    try simp only [Act.put, List.setIfInBounds_toArray, List.set_cons_zero, List.set_cons_succ]
    apply wpAnyH_take (i := 21)
    case hi => (simp only [List.getElem?_toArray, List.getElem?_cons_succ, List.getElem?_cons_zero]; rfl)
    case hs => kernel_rfl
    case hf => kernel_rfl
    case hr => kernel_rfl
    case hQ => exact fun _ _ _ h => h
    case hy => (refine Or.inl ⟨by rfl, ?_⟩; (intro w' hSw; (try dsimp only at hSw); go_simp) <;> with_reducible rfl)
    case hS => assumption
    try simp only [Act.put, List.setIfInBounds_toArray, List.set_cons_zero, List.set_cons_succ]
    apply wpAnyH_take (i := 22)
    case hi => (simp only [List.getElem?_toArray, List.getElem?_cons_succ, List.getElem?_cons_zero]; rfl)
    case hs => kernel_rfl
    case hf => kernel_rfl
    case hr => kernel_rfl
    case hQ => exact fun _ _ _ h => h
    case hy => (refine Or.inl ⟨by rfl, ?_⟩; (intro w' hSw; (try dsimp only at hSw); go_simp) <;> with_reducible rfl)
    case hS => assumption
    try simp only [Act.put, List.setIfInBounds_toArray, List.set_cons_zero, List.set_cons_succ]
    apply wpAnyH_take (i := 23)
    case hi => (simp only [List.getElem?_toArray, List.getElem?_cons_succ, List.getElem?_cons_zero]; rfl)
    case hs => kernel_rfl
    case hf => kernel_rfl
    case hr => kernel_rfl
    case hQ => exact fun _ _ _ h => h
    case hy => (refine Or.inl ⟨by rfl, ?_⟩; (intro w' hSw; (try dsimp only at hSw); go_simp) <;> with_reducible rfl)
    case hS => assumption
    try simp only [Act.put, List.setIfInBounds_toArray, List.set_cons_zero, List.set_cons_succ]
    refine wpAnyH_done (by kernel_rfl) ?_ _
    go_wp2
    go_ret
    exact ⟨rfl, HK6.out.trans KD⟩
end Go.Proofs.YteaepgbakcifkaaDoor
