/- EventSame: the walk. -/
import Derived.Test.YteaepgbakcifkaaDoorEvAw
import Derived.Test.YteaepgbakcifkaaDoorTy
import Derived.Deep.RegionHeld3
set_option linter.unusedVariables false
set_option linter.unusedSimpArgs false
namespace Go.Proofs.YteaepgbakcifkaaDoor
open Go.RowKit
/-- the condition that a region's walk holds may be made stronger on its way -/
theorem wpAnyH_strong {P : Program} {md : Region.Mode} {ops : Array Oper} {Q : Exit → Act → World → Prop} {S S' : World → Prop} (h : ∀ w, S' w → S w) : ∀ (fuel : Nat) (listed : Array Bool) (a : Act) (w : World), wpAnyH P md ops Q S' fuel listed a w → wpAnyH P md ops Q S fuel listed a w
  | 0, _, _, _, hh => hh
  | fuel + 1, listed, a, w, hh => ⟨hh.1, fun i hi => wpOp_mono (fun a' w' h' => ⟨h w' h'.1, wpAnyH_strong h fuel _ a' w' h'.2⟩) (hh.2 i hi)⟩
theorem run_conv {w : World} {a : Option Addr} {n c : Nat} {zs : List Int} (h : Sl .u8 w a n c zs) : (convert 27 9 (.slice a n c)).run Tryd.prog w = .ok (.string (strOf zs)) w :=
  run_str 27 9 5 Tryd.underlying27 Tryd.underlying5 Tryd.underlying9 h
theorem encEv_inj {a b : EV} (ha : goodE a = true) (hb : goodE b = true) : ((strOf (encEv a)).toList == (strOf (encEv b)).toList) = decide (a = b) := by
  by_cases h : a = b
  · subst h; simp
  · rw [decide_eq_false h]
    apply str_ne
    intro e
    have e2 := strOf_inj (encEv_ok a ha).1 (encEv_ok b hb).1 e
    have h1 := getE_enc ha
    rw [e2, getE_enc hb] at h1
    exact h (by injection h1 with h1 _; exact h1.symm)
/-- what Put hands over, whatever the event -/
def putE (e : EV) : List Int := if goodE e = true then encEv e else []
theorem ev_put (e : EV) (w : World) : Calls Tryd.prog 9 #[evV e] w fun E w' => ∃ a n c, E = .returned (.slice a n c) ∧ Sl .u8 w' a n c (putE e) ∧ Kept w w' := by
  unfold putE
  by_cases h : goodE e = true
  · rw [if_pos h]
    exact (ev_put_yes e h w).mono fun E w' ⟨a, c, h1, h2, h3⟩ => ⟨a, _, c, h1, h2, h3⟩
  · rw [if_neg h]
    exact (ev_put_no e (by simpa using h) w).mono fun E w' ⟨h1, h3⟩ => ⟨none, 0, 0, h1, sl_nil .u8 w', h3⟩
set_option maxRecDepth 100000 in
set_option maxHeartbeats 8000000 in
theorem evSame (x y : EV) {w : World} (hv : EvV w) : Calls Tryd.prog 6 #[evV x, evV y] w fun e w' => e = .returned (.bool true) ∧ Kept w w' := by
  have hX : ((w.alloc (evO x)).alloc (evO y)).heap[w.heap.size]? = some (evO x) := heap_keep (heap_alloc_new w _) _
  have hY : ((w.alloc (evO x)).alloc (evO y)).heap[w.heap.size + 1]? = some (evO y) := new_at _ (by simp)
  have hK : Kept w ((w.alloc (evO x)).alloc (evO y)) := (kept_alA _ _).trans (kept_alA _ _)
  have HAw := Lib.hid (ev_awake (hv.kept hK))
  have HGx := Lib.hid (fun W => ev_good x W)
  have HGy := Lib.hid (fun W => ev_good y W)
  have HPx := Lib.hid (fun W => ev_put x W)
  have HPy := Lib.hid (fun W => ev_put y W)
  have HQ := Lib.hid (fun W => run_eqE x y W)
  have HInj := Lib.hid (show goodE x = true → goodE y = true → ((strOf (putE x)).toList == (strOf (putE y)).toList) = decide (x = y) from fun h1 h2 => by unfold putE; rw [if_pos h1, if_pos h2]; exact encEv_inj h1 h2)
  have HX := Lib.hid hX
  have HY := Lib.hid hY
  have HK := Lib.hid hK
  clear hX hY hK hv
  go_enter Tryd.func6, Tryd.ntmps6
  go_wp2_with fail
  generalize hX0 : (w.alloc (.cells #[.int .i64 x.k, .int .i64 x.r, .int .i64 x.t, .int .i64 x.y, .int .i64 x.n, .string x.nm, .string x.ky, .string x.dt] 24 (0, 0))).alloc (.cells #[.int .i64 y.k, .int .i64 y.r, .int .i64 y.t, .int .i64 y.y, .int .i64 y.n, .string y.nm, .string y.ky, .string y.dt] 24 (0, 0)) = X0
  rw [show (w.alloc (evO x)).alloc (evO y) = X0 from hX0] at HX HY HK HAw
  clear hX0
  refine HAw.out.mono ?_
  rintro E X ⟨rfl, hK1⟩
  replace HX := Lib.hid (hK1.only.heap HX.out (by simp))
  replace HY := Lib.hid (hK1.only.heap HY.out (by simp))
  replace HK := Lib.hid (HK.out.trans hK1)
  clear hK1 HAw
  generalize w.heap.size + 1 = q at *
  generalize w.heap.size = p at *
  generalize goodE x = gx at *
  generalize goodE y = gy at *
  obtain ⟨a0, a1, a2, a3, a4, a5, a6, a7⟩ := ev_cells HX.out
  cases gx with
  | false =>
    go_wp2_with fail
    refine (HGx.out _).mono ?_
    rintro E V ⟨rfl, hKV⟩
    have HKV := Lib.hid (HK.out.trans hKV)
    clear hKV
    go_wp2_with fail
    go_ret
    exact ⟨rfl, HKV.out⟩
  | true =>
    go_wp2_with fail
    refine (HGx.out _).mono ?_
    rintro E V ⟨rfl, hKV⟩
    replace HX := Lib.hid (hKV.only.heap HX.out (by simp))
    replace HY := Lib.hid (hKV.only.heap HY.out (by simp))
    replace HK := Lib.hid (HK.out.trans hKV)
    clear hKV a0 a1 a2 a3 a4 a5 a6 a7
    obtain ⟨b0, b1, b2, b3, b4, b5, b6, b7⟩ := ev_cells HY.out
    cases gy with
    | false =>
      go_wp2_with fail
      refine (HGy.out _).mono ?_
      rintro E V2 ⟨rfl, hKV⟩
      have HKV := Lib.hid (HK.out.trans hKV)
      clear hKV
      go_wp2_with fail
      go_ret
      exact ⟨rfl, HKV.out⟩
    | true =>
      go_wp2_with fail
      refine (HGy.out _).mono ?_
      rintro E Z ⟨rfl, hKV⟩
      replace HX := Lib.hid (hKV.only.heap HX.out (by simp))
      replace HY := Lib.hid (hKV.only.heap HY.out (by simp))
      replace HK := Lib.hid (HK.out.trans hKV)
      clear hKV b0 b1 b2 b3 b4 b5 b6 b7
      have hinj := HInj.out (by simp) (by simp)
      clear HInj HGx HGy
      generalize putE x = px at *
      generalize putE y = py at *
      have HQ2 := HQ.out
      clear HQ
      generalize decide (x = y) = d at *
      go_wp2_with fail
      have HS : Hid (∀ w', Kept Z w' → (w'.cell? ⟨p, 0, none⟩ = some (.int .i64 x.k) ∧ w'.cell? ⟨p, 1, none⟩ = some (.int .i64 x.r) ∧ w'.cell? ⟨p, 2, none⟩ = some (.int .i64 x.t) ∧ w'.cell? ⟨p, 3, none⟩ = some (.int .i64 x.y) ∧ w'.cell? ⟨p, 4, none⟩ = some (.int .i64 x.n) ∧ w'.cell? ⟨p, 5, none⟩ = some (.string x.nm) ∧ w'.cell? ⟨p, 6, none⟩ = some (.string x.ky) ∧ w'.cell? ⟨p, 7, none⟩ = some (.string x.dt)) ∧ (w'.cell? ⟨q, 0, none⟩ = some (.int .i64 y.k) ∧ w'.cell? ⟨q, 1, none⟩ = some (.int .i64 y.r) ∧ w'.cell? ⟨q, 2, none⟩ = some (.int .i64 y.t) ∧ w'.cell? ⟨q, 3, none⟩ = some (.int .i64 y.y) ∧ w'.cell? ⟨q, 4, none⟩ = some (.int .i64 y.n) ∧ w'.cell? ⟨q, 5, none⟩ = some (.string y.nm) ∧ w'.cell? ⟨q, 6, none⟩ = some (.string y.ky) ∧ w'.cell? ⟨q, 7, none⟩ = some (.string y.dt))) := fun V k => ⟨ev_cells (k.only.heap HX.out (by simp)), ev_cells (k.only.heap HY.out (by simp))⟩
      have KD : Kept Z Z.drew := by (unfold Kept; repeat (first | exact Below.refl _ _ | assumption | (refine Below.alloc ?_ (by simp) _) | (refine Below.setCell ?_ (by simp) _) | (refine Below.drew ?_) | (refine _root_.Go.below_drewN ?_ _)))
      refine wp_region_held_drew (S := (fun w' => (w'.cell? ⟨p, 0, none⟩ = some (.int .i64 x.k) ∧ w'.cell? ⟨p, 1, none⟩ = some (.int .i64 x.r) ∧ w'.cell? ⟨p, 2, none⟩ = some (.int .i64 x.t) ∧ w'.cell? ⟨p, 3, none⟩ = some (.int .i64 x.y) ∧ w'.cell? ⟨p, 4, none⟩ = some (.int .i64 x.n) ∧ w'.cell? ⟨p, 5, none⟩ = some (.string x.nm) ∧ w'.cell? ⟨p, 6, none⟩ = some (.string x.ky) ∧ w'.cell? ⟨p, 7, none⟩ = some (.string x.dt)) ∧ (w'.cell? ⟨q, 0, none⟩ = some (.int .i64 y.k) ∧ w'.cell? ⟨q, 1, none⟩ = some (.int .i64 y.r) ∧ w'.cell? ⟨q, 2, none⟩ = some (.int .i64 y.t) ∧ w'.cell? ⟨q, 3, none⟩ = some (.int .i64 y.y) ∧ w'.cell? ⟨q, 4, none⟩ = some (.int .i64 y.n) ∧ w'.cell? ⟨q, 5, none⟩ = some (.string y.nm) ∧ w'.cell? ⟨q, 6, none⟩ = some (.string y.ky) ∧ w'.cell? ⟨q, 7, none⟩ = some (.string y.dt)))) (by kernel_rfl) (by exact HS.out _ KD) (fun hHeld => ?_)
      apply wpAnyH_take (i := 0)
      case hi => (simp only [List.getElem?_toArray, List.getElem?_cons_succ, List.getElem?_cons_zero]; rfl)
      case hs => kernel_rfl
      case hf => kernel_rfl
      case hr => kernel_rfl
      case hQ => exact fun _ _ _ h => h
      case hy => (refine Or.inl ⟨by rfl, ?_⟩; (intro w' hSw; (try dsimp only at hSw); go_simp) <;> with_reducible rfl)
      case hS => assumption
      try simp only [Act.put, List.setIfInBounds_toArray, List.set_cons_zero, List.set_cons_succ]
      apply wpAnyH_take (i := 3)
      case hi => (simp only [List.getElem?_toArray, List.getElem?_cons_succ, List.getElem?_cons_zero]; rfl)
      case hs => kernel_rfl
      case hf => kernel_rfl
      case hr => kernel_rfl
      case hQ => exact fun _ _ _ h => h
      case hy => (refine Or.inl ⟨by rfl, ?_⟩; (intro w' hSw; (try dsimp only at hSw); go_simp) <;> with_reducible rfl)
      case hS => assumption
      try simp only [Act.put, List.setIfInBounds_toArray, List.set_cons_zero, List.set_cons_succ]
      apply wpAnyH_take (i := 7)
      case hi => (simp only [List.getElem?_toArray, List.getElem?_cons_succ, List.getElem?_cons_zero]; rfl)
      case hs => kernel_rfl
      case hf => kernel_rfl
      case hr => kernel_rfl
      case hQ => exact fun _ _ _ h => h
      case hy => (refine Or.inl ⟨by rfl, ?_⟩; (intro w' hSw; (try dsimp only at hSw); go_simp) <;> with_reducible rfl)
      case hS => assumption
      try simp only [Act.put, List.setIfInBounds_toArray, List.set_cons_zero, List.set_cons_succ]
      apply wpAnyH_take (i := 8)
      case hi => (simp only [List.getElem?_toArray, List.getElem?_cons_succ, List.getElem?_cons_zero]; rfl)
      case hs => kernel_rfl
      case hf => kernel_rfl
      case hr => kernel_rfl
      case hQ => exact fun _ _ _ h => h
      case hy => (refine Or.inl ⟨by rfl, ?_⟩; (intro w' hSw; (try dsimp only at hSw); go_simp) <;> with_reducible rfl)
      case hS => assumption
      try simp only [Act.put, List.setIfInBounds_toArray, List.set_cons_zero, List.set_cons_succ]
      apply wpAnyH_take (i := 9)
      case hi => (simp only [List.getElem?_toArray, List.getElem?_cons_succ, List.getElem?_cons_zero]; rfl)
      case hs => kernel_rfl
      case hf => kernel_rfl
      case hr => kernel_rfl
      case hQ => exact fun _ _ _ h => h
      case hy => (refine Or.inl ⟨by rfl, ?_⟩; (intro w' hSw; (try dsimp only at hSw); go_simp) <;> with_reducible rfl)
      case hS => assumption
      try simp only [Act.put, List.setIfInBounds_toArray, List.set_cons_zero, List.set_cons_succ]
      refine wpAnyH_ready (rs := [1]) (by kernel_rfl) (by simp) ?_
      apply AllReadyH.cons
      case ho => (simp only [List.getElem?_toArray, List.getElem?_cons_succ, List.getElem?_cons_zero]; rfl)
      case hs => exact AllReadyH.nil
      intro K hK
      go_simp
      (go_at_call 9; refine (HPx.out _).mono ?_; rintro E V1 ⟨a1, n1, c1, rfl, hS1, J⟩; replace KD := KD.trans J; have HS1 := Lib.hid hS1; clear hS1 J)
      refine hK.out _ _ (by exact HS.out _ KD) (fun hHeld => ?_)
      clear hK K
      try simp only [Act.put, List.setIfInBounds_toArray, List.set_cons_zero, List.set_cons_succ]
      have K1 : Kept V1 V1 := Kept.refl _
      have HC1 := Lib.hid (fun V (k : Kept V1 V) => run_conv (k.sl HS1.out))
      refine wpAnyH_strong (S' := (fun w' => ((w'.cell? ⟨p, 0, none⟩ = some (.int .i64 x.k) ∧ w'.cell? ⟨p, 1, none⟩ = some (.int .i64 x.r) ∧ w'.cell? ⟨p, 2, none⟩ = some (.int .i64 x.t) ∧ w'.cell? ⟨p, 3, none⟩ = some (.int .i64 x.y) ∧ w'.cell? ⟨p, 4, none⟩ = some (.int .i64 x.n) ∧ w'.cell? ⟨p, 5, none⟩ = some (.string x.nm) ∧ w'.cell? ⟨p, 6, none⟩ = some (.string x.ky) ∧ w'.cell? ⟨p, 7, none⟩ = some (.string x.dt)) ∧ (w'.cell? ⟨q, 0, none⟩ = some (.int .i64 y.k) ∧ w'.cell? ⟨q, 1, none⟩ = some (.int .i64 y.r) ∧ w'.cell? ⟨q, 2, none⟩ = some (.int .i64 y.t) ∧ w'.cell? ⟨q, 3, none⟩ = some (.int .i64 y.y) ∧ w'.cell? ⟨q, 4, none⟩ = some (.int .i64 y.n) ∧ w'.cell? ⟨q, 5, none⟩ = some (.string y.nm) ∧ w'.cell? ⟨q, 6, none⟩ = some (.string y.ky) ∧ w'.cell? ⟨q, 7, none⟩ = some (.string y.dt))) ∧ (convert 27 9 (.slice a1 n1 c1)).run Tryd.prog w' = .ok (.string (strOf px)) w')) (fun _ h => h.1) _ _ _ _ ?_
      replace hHeld : (fun w' => ((w'.cell? ⟨p, 0, none⟩ = some (.int .i64 x.k) ∧ w'.cell? ⟨p, 1, none⟩ = some (.int .i64 x.r) ∧ w'.cell? ⟨p, 2, none⟩ = some (.int .i64 x.t) ∧ w'.cell? ⟨p, 3, none⟩ = some (.int .i64 x.y) ∧ w'.cell? ⟨p, 4, none⟩ = some (.int .i64 x.n) ∧ w'.cell? ⟨p, 5, none⟩ = some (.string x.nm) ∧ w'.cell? ⟨p, 6, none⟩ = some (.string x.ky) ∧ w'.cell? ⟨p, 7, none⟩ = some (.string x.dt)) ∧ (w'.cell? ⟨q, 0, none⟩ = some (.int .i64 y.k) ∧ w'.cell? ⟨q, 1, none⟩ = some (.int .i64 y.r) ∧ w'.cell? ⟨q, 2, none⟩ = some (.int .i64 y.t) ∧ w'.cell? ⟨q, 3, none⟩ = some (.int .i64 y.y) ∧ w'.cell? ⟨q, 4, none⟩ = some (.int .i64 y.n) ∧ w'.cell? ⟨q, 5, none⟩ = some (.string y.nm) ∧ w'.cell? ⟨q, 6, none⟩ = some (.string y.ky) ∧ w'.cell? ⟨q, 7, none⟩ = some (.string y.dt))) ∧ (convert 27 9 (.slice a1 n1 c1)).run Tryd.prog w' = .ok (.string (strOf px)) w') V1 := ⟨HS.out _ KD, HC1.out _ K1⟩
      apply wpAnyH_take (i := 2)
      case hi => (simp only [List.getElem?_toArray, List.getElem?_cons_succ, List.getElem?_cons_zero]; rfl)
      case hs => kernel_rfl
      case hf => kernel_rfl
      case hr => kernel_rfl
      case hQ => exact fun _ _ _ h => h
      case hy => (refine Or.inl ⟨by rfl, ?_⟩; (intro w' hSw; (try dsimp only at hSw); go_simp) <;> with_reducible rfl)
      case hS => assumption
      try simp only [Act.put, List.setIfInBounds_toArray, List.set_cons_zero, List.set_cons_succ]
      refine wpAnyH_ready (rs := [4]) (by kernel_rfl) (by simp) ?_
      apply AllReadyH.cons
      case ho => (simp only [List.getElem?_toArray, List.getElem?_cons_succ, List.getElem?_cons_zero]; rfl)
      case hs => exact AllReadyH.nil
      intro K hK
      go_simp
      (go_at_call 9; refine (HPy.out _).mono ?_; rintro E V2 ⟨a2, n2, c2, rfl, hS2, J⟩; replace KD := KD.trans J; replace K1 := K1.trans J; have HS2 := Lib.hid hS2; clear hS2 J)
      refine hK.out _ _ (by exact ⟨HS.out _ KD, HC1.out _ K1⟩) (fun hHeld => ?_)
      clear hK K
      try simp only [Act.put, List.setIfInBounds_toArray, List.set_cons_zero, List.set_cons_succ]
      have K2 : Kept V2 V2 := Kept.refl _
      have HC2 := Lib.hid (fun V (k : Kept V2 V) => run_conv (k.sl HS2.out))
      refine wpAnyH_strong (S' := (fun w' => (((w'.cell? ⟨p, 0, none⟩ = some (.int .i64 x.k) ∧ w'.cell? ⟨p, 1, none⟩ = some (.int .i64 x.r) ∧ w'.cell? ⟨p, 2, none⟩ = some (.int .i64 x.t) ∧ w'.cell? ⟨p, 3, none⟩ = some (.int .i64 x.y) ∧ w'.cell? ⟨p, 4, none⟩ = some (.int .i64 x.n) ∧ w'.cell? ⟨p, 5, none⟩ = some (.string x.nm) ∧ w'.cell? ⟨p, 6, none⟩ = some (.string x.ky) ∧ w'.cell? ⟨p, 7, none⟩ = some (.string x.dt)) ∧ (w'.cell? ⟨q, 0, none⟩ = some (.int .i64 y.k) ∧ w'.cell? ⟨q, 1, none⟩ = some (.int .i64 y.r) ∧ w'.cell? ⟨q, 2, none⟩ = some (.int .i64 y.t) ∧ w'.cell? ⟨q, 3, none⟩ = some (.int .i64 y.y) ∧ w'.cell? ⟨q, 4, none⟩ = some (.int .i64 y.n) ∧ w'.cell? ⟨q, 5, none⟩ = some (.string y.nm) ∧ w'.cell? ⟨q, 6, none⟩ = some (.string y.ky) ∧ w'.cell? ⟨q, 7, none⟩ = some (.string y.dt))) ∧ (convert 27 9 (.slice a1 n1 c1)).run Tryd.prog w' = .ok (.string (strOf px)) w') ∧ (convert 27 9 (.slice a2 n2 c2)).run Tryd.prog w' = .ok (.string (strOf py)) w')) (fun _ h => h.1) _ _ _ _ ?_
      replace hHeld : (fun w' => (((w'.cell? ⟨p, 0, none⟩ = some (.int .i64 x.k) ∧ w'.cell? ⟨p, 1, none⟩ = some (.int .i64 x.r) ∧ w'.cell? ⟨p, 2, none⟩ = some (.int .i64 x.t) ∧ w'.cell? ⟨p, 3, none⟩ = some (.int .i64 x.y) ∧ w'.cell? ⟨p, 4, none⟩ = some (.int .i64 x.n) ∧ w'.cell? ⟨p, 5, none⟩ = some (.string x.nm) ∧ w'.cell? ⟨p, 6, none⟩ = some (.string x.ky) ∧ w'.cell? ⟨p, 7, none⟩ = some (.string x.dt)) ∧ (w'.cell? ⟨q, 0, none⟩ = some (.int .i64 y.k) ∧ w'.cell? ⟨q, 1, none⟩ = some (.int .i64 y.r) ∧ w'.cell? ⟨q, 2, none⟩ = some (.int .i64 y.t) ∧ w'.cell? ⟨q, 3, none⟩ = some (.int .i64 y.y) ∧ w'.cell? ⟨q, 4, none⟩ = some (.int .i64 y.n) ∧ w'.cell? ⟨q, 5, none⟩ = some (.string y.nm) ∧ w'.cell? ⟨q, 6, none⟩ = some (.string y.ky) ∧ w'.cell? ⟨q, 7, none⟩ = some (.string y.dt))) ∧ (convert 27 9 (.slice a1 n1 c1)).run Tryd.prog w' = .ok (.string (strOf px)) w') ∧ (convert 27 9 (.slice a2 n2 c2)).run Tryd.prog w' = .ok (.string (strOf py)) w') V2 := ⟨⟨HS.out _ KD, HC1.out _ K1⟩, HC2.out _ K2⟩
      apply wpAnyH_take (i := 5)
      case hi => (simp only [List.getElem?_toArray, List.getElem?_cons_succ, List.getElem?_cons_zero]; rfl)
      case hs => kernel_rfl
      case hf => kernel_rfl
      case hr => kernel_rfl
      case hQ => exact fun _ _ _ h => h
      case hy => (refine Or.inl ⟨by rfl, ?_⟩; (intro w' hSw; (try dsimp only at hSw); go_simp) <;> with_reducible rfl)
      case hS => assumption
      try simp only [Act.put, List.setIfInBounds_toArray, List.set_cons_zero, List.set_cons_succ]
      apply wpAnyH_take (i := 6)
      case hi => (simp only [List.getElem?_toArray, List.getElem?_cons_succ, List.getElem?_cons_zero]; rfl)
      case hs => kernel_rfl
      case hf => kernel_rfl
      case hr => kernel_rfl
      case hQ => exact fun _ _ _ h => h
      case hy => (refine Or.inl ⟨by rfl, ?_⟩; (intro w' hSw; (try dsimp only at hSw); go_simp) <;> with_reducible rfl)
      case hS => assumption
      try simp only [Act.put, List.setIfInBounds_toArray, List.set_cons_zero, List.set_cons_succ]
      apply wpAnyH_take (i := 10)
      case hi => (simp only [List.getElem?_toArray, List.getElem?_cons_succ, List.getElem?_cons_zero]; rfl)
      case hs => kernel_rfl
      case hf => kernel_rfl
      case hr => kernel_rfl
      case hQ => exact fun _ _ _ h => h
      case hy => (refine Or.inl ⟨by rfl, ?_⟩; (intro w' hSw; (try dsimp only at hSw); go_simp) <;> with_reducible rfl)
      case hS => assumption
      try simp only [Act.put, List.setIfInBounds_toArray, List.set_cons_zero, List.set_cons_succ]
      apply wpAnyH_take (i := 11)
      case hi => (simp only [List.getElem?_toArray, List.getElem?_cons_succ, List.getElem?_cons_zero]; rfl)
      case hs => kernel_rfl
      case hf => kernel_rfl
      case hr => kernel_rfl
      case hQ => exact fun _ _ _ h => h
      case hy => (refine Or.inl ⟨by rfl, ?_⟩; (intro w' hSw; (try dsimp only at hSw); go_simp) <;> with_reducible rfl)
      case hS => assumption
      try simp only [Act.put, List.setIfInBounds_toArray, List.set_cons_zero, List.set_cons_succ]
      refine wpAnyH_done (by kernel_rfl) ?_ _
      go_wp2
      go_ret
      exact ⟨by simp, HK.out.trans KD⟩
end Go.Proofs.YteaepgbakcifkaaDoor
