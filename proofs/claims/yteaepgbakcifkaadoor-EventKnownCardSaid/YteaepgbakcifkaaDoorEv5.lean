/- Events: Good. -/
import Derived.Test.YteaepgbakcifkaaDoorEv4
import Derived.Deep.RegionHeld3
set_option linter.unusedVariables false
set_option linter.unusedSimpArgs false
namespace Go.Proofs.YteaepgbakcifkaaDoor
open Go.RowKit
theorem ba_list (a b : ByteArray) : a.toList = b.toList ↔ a = b := by
  rw [toList_data, toList_data]
  exact ⟨fun h => ByteArray.ext (Array.ext' h), fun h => by rw [h]⟩
set_option maxHeartbeats 2000000 in
theorem eqE (x e : EV) (w : World) : (Op.equalIn 10000 24 (evV x) (evV e)).run Tryd.prog w = .ok (decide (x = e)) w := by
  have hS : Tryd.prog.underlying 24 = some (.struct (Tryd.prog.fieldsOf 24)) := by kernel_rfl
  have hp : Tryd.prog.stoodInHeld 24 = false := by kernel_rfl
  rw [show (10000 : Nat) = 9999 + 1 from rfl, run_equalIn_agg w 9999 24 _ _ hS hp]
  simp only [Program.fieldsOf, Tryd.underlying24]
  go_simp
  simp only [ba_list]
  by_cases h : x = e
  · subst h; simp
  · rw [decide_eq_false h]
    rw [EV.eq_iff] at h
    repeat' split
    all_goals first | rfl | (exfalso; apply h; refine ⟨?_, ?_, ?_, ?_, ?_, ?_, ?_, ?_⟩ <;> assumption)
theorem run_eqE (x e : EV) (w : World) : (binOp .eql 24 (evV x) (evV e)).run Tryd.prog w = .ok (.bool (decide (x = e))) w := by
  rw [run_eql_struct, eqE]; rfl
theorem run_eqEN (x e : EV) (w : World) : (binOp .neq 24 (evV x) (evV e)).run Tryd.prog w = .ok (.bool (!decide (x = e))) w := by
  rw [run_neq_struct, eqE]; rfl
set_option maxHeartbeats 2000000 in
theorem eqD (x e : EV) (w : World) : (Op.equalIn 10000 33 (evV x) (evV e)).run Tryd.prog w = .ok (decide (x = e)) w := by
  have hS : Tryd.prog.underlying 33 = some (.struct (Tryd.prog.fieldsOf 33)) := by kernel_rfl
  have hp : Tryd.prog.stoodInHeld 33 = false := by kernel_rfl
  rw [show (10000 : Nat) = 9999 + 1 from rfl, run_equalIn_agg w 9999 33 _ _ hS hp]
  simp only [Program.fieldsOf, Tryd.underlying33]
  go_simp
  simp only [ba_list]
  by_cases h : x = e
  · subst h; simp
  · rw [decide_eq_false h]
    rw [EV.eq_iff] at h
    repeat' split
    all_goals first | rfl | (exfalso; apply h; refine ⟨?_, ?_, ?_, ?_, ?_, ?_, ?_, ?_⟩ <;> assumption)
theorem run_eqD (x e : EV) (w : World) : (binOp .eql 33 (evV x) (evV e)).run Tryd.prog w = .ok (.bool (decide (x = e))) w := by
  rw [run_eql_struct, eqD]; rfl
theorem run_eqDN (x e : EV) (w : World) : (binOp .neq 33 (evV x) (evV e)).run Tryd.prog w = .ok (.bool (!decide (x = e))) w := by
  rw [run_neq_struct, eqD]; rfl
theorem flds_size {k : Int} (h : flds k ≠ []) : (⟨(flds k).toArray⟩ : ByteArray).toList.isEmpty = false := by
  rw [toList_data]
  show (flds k).isEmpty = false
  cases hl : flds k with
  | nil => exact absurd hl h
  | cons a l => rfl
theorem all_any {l : List UInt8} {p : UInt8 → Bool} : l.all p = !l.any fun c => !p c := by
  induction l with
  | nil => rfl
  | cons a l ih => simp [ih]
set_option maxRecDepth 100000 in
set_option maxHeartbeats 4000000 in
theorem ev_good (e : EV) (w : World) : Calls Tryd.prog 8 #[evV e] w fun E w' => E = .returned (.bool (goodE e)) ∧ Kept w w' := by
  have HF := Lib.hid (fun W => ev_fields e.k W)
  by_cases hf : flds e.k = []
  · have hg : goodE e = false := by unfold goodE; rw [decide_eq_false (by simpa using hf)]; rfl
    rw [hg]
    rw [hf] at HF
    clear hf hg
    go_enter Tryd.func8, Tryd.ntmps8
    go_wp2_with fail
    refine (HF.out _).mono ?_
    rintro E V ⟨rfl, rfl⟩
    go_wp2_with fail
    go_quiet (fail)
    go_wp2_with fail
    go_ret
    exact ⟨rfl, by (unfold Kept; repeat (first | exact Below.refl _ _ | assumption | (refine Below.alloc ?_ (by simp) _) | (refine Below.setCell ?_ (by simp) _) | (refine Below.drew ?_) | (refine _root_.Go.below_drewN ?_ _)))⟩
  · have HO := Lib.hid (fun W => ev_only e (flds e.k) (flds_ltr e.k) W)
    have HA := Lib.hid (fun W q (hq : W.heap[q]? = some (evO e)) => ev_any e (flds e.k) (flds_ltr e.k) q W hq)
    have hE := flds_size hf
    have hne : decide (flds e.k ≠ []) = true := by simpa using hf
    have hX0 := heap_alloc_new w (evO e)
    have K0 : Kept w (w.alloc (evO e)) := by (unfold Kept; repeat (first | exact Below.refl _ _ | assumption | (refine Below.alloc ?_ (by simp) _) | (refine Below.setCell ?_ (by simp) _) | (refine Below.drew ?_) | (refine _root_.Go.below_drewN ?_ _)))
    by_cases ho : onlyE e (flds e.k) = e
    · have hg : goodE e = !(flds e.k).any fun c => !okF e c.toNat := by unfold goodE; rw [hne, decide_eq_true ho, ← all_any]; rfl
      rw [hg]
      rw [ho] at HO
      have HQ : ∀ W, (binOp .eql 24 (evV e) (evV e)).run Tryd.prog W = .ok (.bool true) W := fun W => by rw [run_eqE, decide_eq_true rfl]
      clear hf hne ho hg
      generalize ((flds e.k).any fun c => !okF e c.toNat) = B at *
      generalize (⟨(flds e.k).toArray⟩ : ByteArray) = F at *
      go_enter Tryd.func8, Tryd.ntmps8
      go_wp2_with fail
      refine (HF.out _).mono ?_
      rintro E V ⟨rfl, rfl⟩
      go_wp2_with fail
      generalize hX : w.alloc (evO e) = X at *
      clear hX
      have HH : Hid (∀ V, Kept X V → V.heap[w.heap.size]? = some (evO e)) := fun V k => k.only.heap hX0 (by simp)
      generalize w.heap.size = Q at HH ⊢
      have HS : Hid (∀ w', Kept X w' → w'.cell? ⟨Q, 0, none⟩ = some (.int .i64 e.k) ∧ w'.cell? ⟨Q, 1, none⟩ = some (.int .i64 e.r) ∧ w'.cell? ⟨Q, 2, none⟩ = some (.int .i64 e.t) ∧ w'.cell? ⟨Q, 3, none⟩ = some (.int .i64 e.y) ∧ w'.cell? ⟨Q, 4, none⟩ = some (.int .i64 e.n) ∧ w'.cell? ⟨Q, 5, none⟩ = some (.string e.nm) ∧ w'.cell? ⟨Q, 6, none⟩ = some (.string e.ky) ∧ w'.cell? ⟨Q, 7, none⟩ = some (.string e.dt)) := fun V k => ev_cells (HH.out V k)
      have KD : Kept X X.drew := by (unfold Kept; repeat (first | exact Below.refl _ _ | assumption | (refine Below.alloc ?_ (by simp) _) | (refine Below.setCell ?_ (by simp) _) | (refine Below.drew ?_) | (refine _root_.Go.below_drewN ?_ _)))
      clear hX0
      go_region_held3 (fun w' => w'.cell? ⟨Q, 0, none⟩ = some (.int .i64 e.k) ∧ w'.cell? ⟨Q, 1, none⟩ = some (.int .i64 e.r) ∧ w'.cell? ⟨Q, 2, none⟩ = some (.int .i64 e.t) ∧ w'.cell? ⟨Q, 3, none⟩ = some (.int .i64 e.y) ∧ w'.cell? ⟨Q, 4, none⟩ = some (.int .i64 e.n) ∧ w'.cell? ⟨Q, 5, none⟩ = some (.string e.nm) ∧ w'.cell? ⟨Q, 6, none⟩ = some (.string e.ky) ∧ w'.cell? ⟨Q, 7, none⟩ = some (.string e.dt)) (first | exact HS.out _ KD) (first | (go_at_call 18; refine (HO.out _).mono ?_; rintro E V ⟨rfl, J⟩; replace KD := KD.trans J; clear J) | (go_at_call 19; refine (HA.out _ _ (HH.out _ KD)).mono ?_; rintro E V2 ⟨rfl, J⟩; replace KD := KD.trans J; clear J))
      go_wp2
      go_ret
      exact ⟨by simp, K0.trans KD⟩
    · have hg : goodE e = false := by unfold goodE; rw [hne, decide_eq_false ho]; rfl
      rw [hg]
      have HQ : ∀ W, (binOp .eql 24 (evV (onlyE e (flds e.k))) (evV e)).run Tryd.prog W = .ok (.bool false) W := fun W => by rw [run_eqE, decide_eq_false ho]
      clear hf hne ho hg
      generalize onlyE e (flds e.k) = x at *
      generalize (⟨(flds e.k).toArray⟩ : ByteArray) = F at *
      go_enter Tryd.func8, Tryd.ntmps8
      go_wp2_with fail
      refine (HF.out _).mono ?_
      rintro E V ⟨rfl, rfl⟩
      go_wp2_with fail
      generalize hX : w.alloc (evO e) = X at *
      clear hX
      have HH : Hid (∀ V, Kept X V → V.heap[w.heap.size]? = some (evO e)) := fun V k => k.only.heap hX0 (by simp)
      generalize w.heap.size = Q at HH ⊢
      have HS : Hid (∀ w', Kept X w' → w'.cell? ⟨Q, 0, none⟩ = some (.int .i64 e.k) ∧ w'.cell? ⟨Q, 1, none⟩ = some (.int .i64 e.r) ∧ w'.cell? ⟨Q, 2, none⟩ = some (.int .i64 e.t) ∧ w'.cell? ⟨Q, 3, none⟩ = some (.int .i64 e.y) ∧ w'.cell? ⟨Q, 4, none⟩ = some (.int .i64 e.n) ∧ w'.cell? ⟨Q, 5, none⟩ = some (.string e.nm) ∧ w'.cell? ⟨Q, 6, none⟩ = some (.string e.ky) ∧ w'.cell? ⟨Q, 7, none⟩ = some (.string e.dt)) := fun V k => ev_cells (HH.out V k)
      have KD : Kept X X.drew := by (unfold Kept; repeat (first | exact Below.refl _ _ | assumption | (refine Below.alloc ?_ (by simp) _) | (refine Below.setCell ?_ (by simp) _) | (refine Below.drew ?_) | (refine _root_.Go.below_drewN ?_ _)))
      clear hX0
      refine wp_region_held_drew (S := fun w' => w'.cell? ⟨Q, 0, none⟩ = some (.int .i64 e.k) ∧ w'.cell? ⟨Q, 1, none⟩ = some (.int .i64 e.r) ∧ w'.cell? ⟨Q, 2, none⟩ = some (.int .i64 e.t) ∧ w'.cell? ⟨Q, 3, none⟩ = some (.int .i64 e.y) ∧ w'.cell? ⟨Q, 4, none⟩ = some (.int .i64 e.n) ∧ w'.cell? ⟨Q, 5, none⟩ = some (.string e.nm) ∧ w'.cell? ⟨Q, 6, none⟩ = some (.string e.ky) ∧ w'.cell? ⟨Q, 7, none⟩ = some (.string e.dt)) (by kernel_rfl) (by exact HS.out _ KD) (fun hHeld => ?_)
      apply wpAnyH_take (i := 0)
      case hi => (simp only [List.getElem?_toArray, List.getElem?_cons_succ, List.getElem?_cons_zero]; rfl)
      case hs => kernel_rfl
      case hf => kernel_rfl
      case hr => kernel_rfl
      case hQ => exact fun _ _ _ h => h
      case hy => (refine Or.inl ⟨by rfl, ?_⟩; (intro w' hSw; (try dsimp only at hSw); go_simp) <;> with_reducible rfl)
      case hS => assumption
      try simp only [Act.put, List.setIfInBounds_toArray, List.set_cons_zero, List.set_cons_succ]
      apply wpAnyH_take (i := 1)
      case hi => (simp only [List.getElem?_toArray, List.getElem?_cons_succ, List.getElem?_cons_zero]; rfl)
      case hs => kernel_rfl
      case hf => kernel_rfl
      case hr => kernel_rfl
      case hQ => exact fun _ _ _ h => h
      case hy => (refine Or.inl ⟨by rfl, ?_⟩; (intro w' hSw; (try dsimp only at hSw); go_simp) <;> with_reducible rfl)
      case hS => assumption
      try simp only [Act.put, List.setIfInBounds_toArray, List.set_cons_zero, List.set_cons_succ]
      apply wpAnyH_take (i := 2)
      case hi => (simp only [List.getElem?_toArray, List.getElem?_cons_succ, List.getElem?_cons_zero]; rfl)
      case hs => kernel_rfl
      case hf => kernel_rfl
      case hr => kernel_rfl
      case hQ => exact fun _ _ _ h => h
      case hy => (refine Or.inl ⟨by rfl, ?_⟩; (intro w' hSw; (try dsimp only at hSw); go_simp) <;> with_reducible rfl)
      case hS => assumption
      try simp only [Act.put, List.setIfInBounds_toArray, List.set_cons_zero, List.set_cons_succ]
      apply wpAnyH_take (i := 3)
      case hi => (simp only [List.getElem?_toArray, List.getElem?_cons_succ, List.getElem?_cons_zero]; rfl)
      case hs => kernel_rfl
      case hf => kernel_rfl
      case hr => kernel_rfl
      case hQ => exact fun _ _ _ h => h
      case hy => (refine Or.inl ⟨by rfl, ?_⟩; (intro w' hSw; (try dsimp only at hSw); go_simp) <;> with_reducible rfl)
      case hS => assumption
      try simp only [Act.put, List.setIfInBounds_toArray, List.set_cons_zero, List.set_cons_succ]
      apply wpAnyH_take (i := 4)
      case hi => (simp only [List.getElem?_toArray, List.getElem?_cons_succ, List.getElem?_cons_zero]; rfl)
      case hs => kernel_rfl
      case hf => kernel_rfl
      case hr => kernel_rfl
      case hQ => exact fun _ _ _ h => h
      case hy => (refine Or.inl ⟨by rfl, ?_⟩; (intro w' hSw; (try dsimp only at hSw); go_simp) <;> with_reducible rfl)
      case hS => assumption
      try simp only [Act.put, List.setIfInBounds_toArray, List.set_cons_zero, List.set_cons_succ]
      apply wpAnyH_take (i := 6)
      case hi => (simp only [List.getElem?_toArray, List.getElem?_cons_succ, List.getElem?_cons_zero]; rfl)
      case hs => kernel_rfl
      case hf => kernel_rfl
      case hr => kernel_rfl
      case hQ => exact fun _ _ _ h => h
      case hy => (refine Or.inl ⟨by rfl, ?_⟩; (intro w' hSw; (try dsimp only at hSw); go_simp) <;> with_reducible rfl)
      case hS => assumption
      try simp only [Act.put, List.setIfInBounds_toArray, List.set_cons_zero, List.set_cons_succ]
      refine wpAnyH_ready (rs := [5]) (by kernel_rfl) (by simp) ?_
      apply AllReadyH.cons
      case ho => (simp only [List.getElem?_toArray, List.getElem?_cons_succ, List.getElem?_cons_zero]; rfl)
      case hs => exact AllReadyH.nil
      intro K hK
      go_simp
      go_at_call 18; refine (HO.out _).mono ?_; rintro E V ⟨rfl, J⟩; replace KD := KD.trans J; clear J
      refine hK.out _ _ (by exact HS.out _ KD) (fun hHeld => ?_)
      clear hK K
      try simp only [Act.put, List.setIfInBounds_toArray, List.set_cons_zero, List.set_cons_succ]
      apply wpAnyH_take (i := 7)
      case hi => (simp only [List.getElem?_toArray, List.getElem?_cons_succ, List.getElem?_cons_zero]; rfl)
      case hs => kernel_rfl
      case hf => kernel_rfl
      case hr => kernel_rfl
      case hQ => exact fun _ _ _ h => h
      case hy => (refine Or.inl ⟨by rfl, ?_⟩; (intro w' hSw; (try dsimp only at hSw); go_simp) <;> with_reducible rfl)
      case hS => assumption
      try simp only [Act.put, List.setIfInBounds_toArray, List.set_cons_zero, List.set_cons_succ]
      apply wpAnyH_take (i := 8)
      case hi => (simp only [List.getElem?_toArray, List.getElem?_cons_succ, List.getElem?_cons_zero]; rfl)
      case hs => kernel_rfl
      case hf => kernel_rfl
      case hr => kernel_rfl
      case hQ => exact fun _ _ _ h => h
      case hy => (refine Or.inl ⟨by rfl, ?_⟩; (intro w' hSw; (try dsimp only at hSw); go_simp) <;> with_reducible rfl)
      case hS => assumption
      try simp only [Act.put, List.setIfInBounds_toArray, List.set_cons_zero, List.set_cons_succ]
      apply wpAnyH_take (i := 9)
      case hi => (simp only [List.getElem?_toArray, List.getElem?_cons_succ, List.getElem?_cons_zero]; rfl)
      case hs => kernel_rfl
      case hf => kernel_rfl
      case hr => kernel_rfl
      case hQ => exact fun _ _ _ h => h
      case hy => (refine Or.inl ⟨by rfl, ?_⟩; (intro w' hSw; (try dsimp only at hSw); go_simp) <;> with_reducible rfl)
      case hS => assumption
      try simp only [Act.put, List.setIfInBounds_toArray, List.set_cons_zero, List.set_cons_succ]
      apply wpAnyH_take (i := 10)
      case hi => (simp only [List.getElem?_toArray, List.getElem?_cons_succ, List.getElem?_cons_zero]; rfl)
      case hs => kernel_rfl
      case hf => kernel_rfl
      case hr => kernel_rfl
      case hQ => exact fun _ _ _ h => h
      case hy => exact Or.inr ⟨by rfl, rfl⟩
      case hS => assumption
      try simp only [Act.put, List.setIfInBounds_toArray, List.set_cons_zero, List.set_cons_succ]
      apply wpAnyH_take (i := 11)
      case hi => (simp only [List.getElem?_toArray, List.getElem?_cons_succ, List.getElem?_cons_zero]; rfl)
      case hs => kernel_rfl
      case hf => kernel_rfl
      case hr => kernel_rfl
      case hQ => exact fun _ _ _ h => h
      case hy => exact Or.inr ⟨by rfl, rfl⟩
      case hS => assumption
      try simp only [Act.put, List.setIfInBounds_toArray, List.set_cons_zero, List.set_cons_succ]
      apply wpAnyH_take (i := 12)
      case hi => (simp only [List.getElem?_toArray, List.getElem?_cons_succ, List.getElem?_cons_zero]; rfl)
      case hs => kernel_rfl
      case hf => kernel_rfl
      case hr => kernel_rfl
      case hQ => exact fun _ _ _ h => h
      case hy => exact Or.inr ⟨by rfl, rfl⟩
      case hS => assumption
      try simp only [Act.put, List.setIfInBounds_toArray, List.set_cons_zero, List.set_cons_succ]
      apply wpAnyH_take (i := 13)
      case hi => (simp only [List.getElem?_toArray, List.getElem?_cons_succ, List.getElem?_cons_zero]; rfl)
      case hs => kernel_rfl
      case hf => kernel_rfl
      case hr => kernel_rfl
      case hQ => exact fun _ _ _ h => h
      case hy => exact Or.inr ⟨by rfl, rfl⟩
      case hS => assumption
      try simp only [Act.put, List.setIfInBounds_toArray, List.set_cons_zero, List.set_cons_succ]
      apply wpAnyH_take (i := 14)
      case hi => (simp only [List.getElem?_toArray, List.getElem?_cons_succ, List.getElem?_cons_zero]; rfl)
      case hs => kernel_rfl
      case hf => kernel_rfl
      case hr => kernel_rfl
      case hQ => exact fun _ _ _ h => h
      case hy => (refine Or.inl ⟨by rfl, ?_⟩; (intro w' hSw; (try dsimp only at hSw); go_simp) <;> with_reducible rfl)
      case hS => assumption
      try simp only [Act.put, List.setIfInBounds_toArray, List.set_cons_zero, List.set_cons_succ]
      apply wpAnyH_take (i := 15)
      case hi => (simp only [List.getElem?_toArray, List.getElem?_cons_succ, List.getElem?_cons_zero]; rfl)
      case hs => kernel_rfl
      case hf => kernel_rfl
      case hr => kernel_rfl
      case hQ => exact fun _ _ _ h => h
      case hy => (refine Or.inl ⟨by rfl, ?_⟩; (intro w' hSw; (try dsimp only at hSw); go_simp) <;> with_reducible rfl)
      case hS => assumption
      try simp only [Act.put, List.setIfInBounds_toArray, List.set_cons_zero, List.set_cons_succ]
      refine wpAnyH_done (by kernel_rfl) ?_ _
      go_wp2
      go_ret
      exact ⟨rfl, K0.trans KD⟩
end Go.Proofs.YteaepgbakcifkaaDoor
