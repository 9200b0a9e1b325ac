/- Add: a table with one record more. -/
import Derived.Test.YtmkoabalakfehaaEpWords
import Derived.Deep.RegionHeld3
set_option linter.unusedVariables false
set_option linter.unusedSimpArgs false
namespace Go.Proofs.Ytmkoabalakfehaa
open Go.RowKit
theorem two_new' (w : World) (a b : Obj) : ((w.alloc a).alloc b).heap[w.heap.size + 1]? = some b := by
  have := heap_alloc_new (w.alloc a) b
  simpa using this
theorem kept_al (w : World) (o : Obj) : Kept w (w.alloc o) := ((Only.refl [] w).alloc o).kept
def addL (L : List Int) (s : Int) : List Int := if L = [] ∨ epI (L.getD (L.length - 1) 0) < epI s then L ++ [s] else L
theorem two_set {w : World} {p : Nat} {t : TypeId} {m : Nat × Nat} {v0 v1 : Value} (h : w.heap[p]? = some (.cells #[v0, v1] t m)) (u0 u1 : Value) :
    ((w.setCell ⟨p, 0, none⟩ u0).setCell ⟨p, 1, none⟩ u1).heap[p]? = some (.cells #[u0, u1] t m) := at_set (at_set h 0 u0) 1 u1
theorem two_cells {w : World} {p : Nat} {t : TypeId} {m : Nat × Nat} {v0 v1 : Value} (h : w.heap[p]? = some (.cells #[v0, v1] t m)) : w.cell? ⟨p, 0, none⟩ = some v0 ∧ w.cell? ⟨p, 1, none⟩ = some v1 := ⟨at_cell h 0 _ rfl, at_cell h 1 _ rfl⟩
theorem only_set2 (w : World) (q : Nat) (u0 u1 : Value) : Only [q] w ((w.setCell ⟨q, 0, none⟩ u0).setCell ⟨q, 1, none⟩ u1) :=
  (((Only.refl [q] w).setCell (fun _ => by simp) u0).setCell (fun _ => by simp) u1)
set_option maxRecDepth 100000 in
set_option maxHeartbeats 2000000 in
theorem ep_add_nil (a : Option Addr) (c : Nat) (L : List Int) (E s : Int) (w : World) (hS : Sl .u64 w a 0 c L) (hW : IsW L) (s0 : 0 ≤ s) (s1 : s ≤ 18446744073709551615) (hg : GoodT L E) (ho : ofI s = E) (hb : 0 ≤ 1000) :
    Calls Try.prog 25 #[.agg #[.slice a 0 c, .int .i64 E], .int .u64 s] w fun e w' => ∃ a' n' c', e = .returned (.tuple #[.agg #[.slice a' n' c', .int .i64 (E + 1)], .bool true]) ∧ Sl .u64 w' a' n' c' (L ++ [s]) ∧ (∀ y, a' = some y → w.heap.size ≤ y.block) ∧ Kept w w' := by
  have hL : L = [] := List.eq_nil_of_length_eq_zero hS.1
  have HS := Lib.hid hS
  have KB : Kept w ((w.alloc (.cells #[.slice a 0 c, .int .i64 E] 24)).alloc (.cells #[.slice none 0 0, .int .i64 0] 24)) := (((Only.refl [] w).alloc _).alloc _).kept
  have hR := two_new' w (.cells #[.slice a 0 c, .int .i64 E] 24) (.cells #[.slice none 0 0, .int .i64 0] 24)
  have hB := (kept_al (w.alloc (.cells #[.slice a 0 c, .int .i64 E] 24)) (.cells #[.slice none 0 0, .int .i64 0] 24)).only.heap (heap_alloc_new w (.cells #[.slice a 0 c, .int .i64 E] 24)) (by simp)
  have GD := Lib.hid (fun V (k : Kept w V) => ep_good a 0 c L E V (k.sl hS) hW)
  have HGD : Hid (decide (GoodT L E) = true) := decide_eq_true hg
  obtain ⟨-, hE0, hE1⟩ := hg
  have hso : (ofI s != E) = false := by simp [ho]
  obtain ⟨b0, b1⟩ := two_cells hB
  have HB := Lib.hid hB
  have HR := Lib.hid hR
  have hsz : w.heap.size + 1 < ((w.alloc (.cells #[.slice a 0 c, .int .i64 E] 24)).alloc (.cells #[.slice none 0 0, .int .i64 0] 24)).heap.size := by simp
  clear hS hR hW
  go_enter Try.func25, Try.ntmps25
  go_wp2_with fail
  clear b0 b1 hB
  generalize World.alloc (World.alloc w _) _ = W at *
  have HS2 : Hid (∀ V, Kept W V → V.cell? ⟨w.heap.size, 0, none⟩ = some (.slice a 0 c) ∧ V.cell? ⟨w.heap.size, 1, none⟩ = some (.int .i64 E)) := fun V k => ⟨k.cel (two_cells HB.out).1, k.cel (two_cells HB.out).2⟩
  have KD : Kept W W.drew := (Kept.refl _).dr ⟨1, rfl⟩
  refine wp_region_held_drew (S := fun w' => w'.cell? ⟨w.heap.size, 0, none⟩ = some (.slice a 0 c) ∧ w'.cell? ⟨w.heap.size, 1, none⟩ = some (.int .i64 E)) (by kernel_rfl) (by exact HS2.out _ KD) (fun hHeld => ?_)
  apply wpAnyH_take (i := 0)
  case hi => (simp only [List.getElem?_toArray, List.getElem?_cons_succ, List.getElem?_cons_zero]; rfl)
  case hs => kernel_rfl
  case hf => kernel_rfl
  case hr => kernel_rfl
  case hQ => exact fun _ _ _ h => h
  case hy => (refine Or.inl ⟨by rfl, ?_⟩; (intro w' hSw; (try dsimp only at hSw); go_simp) <;> with_reducible rfl)
  case hS => assumption
  try simp only [Act.put, List.setIfInBounds_toArray, List.set_cons_zero, List.set_cons_succ]
  refine wpAnyH_ready (rs := [1]) (by kernel_rfl) (by simp) ?_
  apply AllReadyH.cons
  case ho => (simp only [List.getElem?_toArray, List.getElem?_cons_succ, List.getElem?_cons_zero]; rfl)
  case hs => exact AllReadyH.nil
  intro K hK
  go_simp
  go_at_call 8; refine (GD.out _ (KB.trans KD)).mono ?_; rintro e V ⟨rfl, J⟩; rw [HGD.out]; replace KD := KD.trans J; clear J
  refine hK.out _ _ (by exact HS2.out _ KD) (fun hHeld => ?_)
  clear hK K
  try simp only [Act.put, List.setIfInBounds_toArray, List.set_cons_zero, List.set_cons_succ]
  apply wpAnyH_take (i := 2)
  case hi => (simp only [List.getElem?_toArray, List.getElem?_cons_succ, List.getElem?_cons_zero]; rfl)
  case hs => kernel_rfl
  case hf => kernel_rfl
  case hr => kernel_rfl
  case hQ => exact fun _ _ _ h => h
  case hy => (refine Or.inl ⟨by rfl, ?_⟩; (intro w' hSw; (try dsimp only at hSw); go_simp) <;> with_reducible rfl)
  case hS => assumption
  try simp only [Act.put, List.setIfInBounds_toArray, List.set_cons_zero, List.set_cons_succ]
  apply wpAnyH_take (i := 3)
  case hi => (simp only [List.getElem?_toArray, List.getElem?_cons_succ, List.getElem?_cons_zero]; rfl)
  case hs => kernel_rfl
  case hf => kernel_rfl
  case hr => kernel_rfl
  case hQ => exact fun _ _ _ h => h
  case hy => (refine Or.inl ⟨by rfl, ?_⟩; (intro w' hSw; (try dsimp only at hSw); go_simp) <;> with_reducible rfl)
  case hS => assumption
  try simp only [Act.put, List.setIfInBounds_toArray, List.set_cons_zero, List.set_cons_succ]
  apply wpAnyH_take (i := 4)
  case hi => (simp only [List.getElem?_toArray, List.getElem?_cons_succ, List.getElem?_cons_zero]; rfl)
  case hs => kernel_rfl
  case hf => kernel_rfl
  case hr => kernel_rfl
  case hQ => exact fun _ _ _ h => h
  case hy => (refine Or.inl ⟨by rfl, ?_⟩; (intro w' hSw; (try dsimp only at hSw); go_simp) <;> with_reducible rfl)
  case hS => assumption
  try simp only [Act.put, List.setIfInBounds_toArray, List.set_cons_zero, List.set_cons_succ]
  apply wpAnyH_take (i := 6)
  case hi => (simp only [List.getElem?_toArray, List.getElem?_cons_succ, List.getElem?_cons_zero]; rfl)
  case hs => kernel_rfl
  case hf => kernel_rfl
  case hr => kernel_rfl
  case hQ => exact fun _ _ _ h => h
  case hy => (refine Or.inl ⟨by rfl, ?_⟩; (intro w' hSw; (try dsimp only at hSw); go_simp) <;> with_reducible rfl)
  case hS => assumption
  try simp only [Act.put, List.setIfInBounds_toArray, List.set_cons_zero, List.set_cons_succ]
  apply wpAnyH_take (i := 7)
  case hi => (simp only [List.getElem?_toArray, List.getElem?_cons_succ, List.getElem?_cons_zero]; rfl)
  case hs => kernel_rfl
  case hf => kernel_rfl
  case hr => kernel_rfl
  case hQ => exact fun _ _ _ h => h
  case hy => (refine Or.inl ⟨by rfl, ?_⟩; (intro w' hSw; (try dsimp only at hSw); go_simp) <;> with_reducible rfl)
  case hS => assumption
  try simp only [Act.put, List.setIfInBounds_toArray, List.set_cons_zero, List.set_cons_succ]
  refine wpAnyH_ready (rs := [5]) (by kernel_rfl) (by simp) ?_
  apply AllReadyH.cons
  case ho => (simp only [List.getElem?_toArray, List.getElem?_cons_succ, List.getElem?_cons_zero]; rfl)
  case hs => exact AllReadyH.nil
  intro K hK
  go_simp
  go_at_call 28; refine (stamp_off _ _ (by omega) (by omega)).mono ?_; rintro e V' ⟨rfl, rfl⟩
  refine hK.out _ _ (by exact HS2.out _ KD) (fun hHeld => ?_)
  clear hK K
  try simp only [Act.put, List.setIfInBounds_toArray, List.set_cons_zero, List.set_cons_succ]
  apply wpAnyH_take (i := 8)
  case hi => (simp only [List.getElem?_toArray, List.getElem?_cons_succ, List.getElem?_cons_zero]; rfl)
  case hs => kernel_rfl
  case hf => kernel_rfl
  case hr => kernel_rfl
  case hQ => exact fun _ _ _ h => h
  case hy => (refine Or.inl ⟨by rfl, ?_⟩; (intro w' hSw; (try dsimp only at hSw); go_simp) <;> with_reducible rfl)
  case hS => assumption
  try simp only [Act.put, List.setIfInBounds_toArray, List.set_cons_zero, List.set_cons_succ]
  apply wpAnyH_take (i := 9)
  case hi => (simp only [List.getElem?_toArray, List.getElem?_cons_succ, List.getElem?_cons_zero]; rfl)
  case hs => kernel_rfl
  case hf => kernel_rfl
  case hr => kernel_rfl
  case hQ => exact fun _ _ _ h => h
  case hy => (refine Or.inl ⟨by rfl, ?_⟩; (intro w' hSw; (try dsimp only at hSw); go_simp) <;> with_reducible rfl)
  case hS => assumption
  try simp only [Act.put, List.setIfInBounds_toArray, List.set_cons_zero, List.set_cons_succ]
  apply wpAnyH_take (i := 10)
  case hi => (simp only [List.getElem?_toArray, List.getElem?_cons_succ, List.getElem?_cons_zero]; rfl)
  case hs => kernel_rfl
  case hf => kernel_rfl
  case hr => kernel_rfl
  case hQ => exact fun _ _ _ h => h
  case hy => (refine Or.inl ⟨by rfl, ?_⟩; (intro w' hSw; (try dsimp only at hSw); go_simp) <;> with_reducible rfl)
  case hS => assumption
  try simp only [Act.put, List.setIfInBounds_toArray, List.set_cons_zero, List.set_cons_succ]
  apply wpAnyH_take (i := 11)
  case hi => (simp only [List.getElem?_toArray, List.getElem?_cons_succ, List.getElem?_cons_zero]; rfl)
  case hs => kernel_rfl
  case hf => kernel_rfl
  case hr => kernel_rfl
  case hQ => exact fun _ _ _ h => h
  case hy => (refine Or.inl ⟨by rfl, ?_⟩; (intro w' hSw; (try dsimp only at hSw); go_simp) <;> with_reducible rfl)
  case hS => assumption
  try simp only [Act.put, List.setIfInBounds_toArray, List.set_cons_zero, List.set_cons_succ]
  apply wpAnyH_take (i := 12)
  case hi => (simp only [List.getElem?_toArray, List.getElem?_cons_succ, List.getElem?_cons_zero]; rfl)
  case hs => kernel_rfl
  case hf => kernel_rfl
  case hr => kernel_rfl
  case hQ => exact fun _ _ _ h => h
  case hy => (refine Or.inl ⟨by rfl, ?_⟩; (intro w' hSw; (try dsimp only at hSw); go_simp) <;> with_reducible rfl)
  case hS => assumption
  try simp only [Act.put, List.setIfInBounds_toArray, List.set_cons_zero, List.set_cons_succ]
  apply wpAnyH_take (i := 13)
  case hi => (simp only [List.getElem?_toArray, List.getElem?_cons_succ, List.getElem?_cons_zero]; rfl)
  case hs => kernel_rfl
  case hf => kernel_rfl
  case hr => kernel_rfl
  case hQ => exact fun _ _ _ h => h
  case hy => (refine Or.inl ⟨by rfl, ?_⟩; (intro w' hSw; (try dsimp only at hSw); go_simp) <;> with_reducible rfl)
  case hS => assumption
  try simp only [Act.put, List.setIfInBounds_toArray, List.set_cons_zero, List.set_cons_succ]
  apply wpAnyH_take (i := 14)
  case hi => (simp only [List.getElem?_toArray, List.getElem?_cons_succ, List.getElem?_cons_zero]; rfl)
  case hs => kernel_rfl
  case hf => kernel_rfl
  case hr => kernel_rfl
  case hQ => exact fun _ _ _ h => h
  case hy => exact Or.inr ⟨by rfl, rfl⟩
  case hS => assumption
  try simp only [Act.put, List.setIfInBounds_toArray, List.set_cons_zero, List.set_cons_succ]
  apply wpAnyH_take (i := 15)
  case hi => (simp only [List.getElem?_toArray, List.getElem?_cons_succ, List.getElem?_cons_zero]; rfl)
  case hs => kernel_rfl
  case hf => kernel_rfl
  case hr => kernel_rfl
  case hQ => exact fun _ _ _ h => h
  case hy => exact Or.inr ⟨by rfl, rfl⟩
  case hS => assumption
  try simp only [Act.put, List.setIfInBounds_toArray, List.set_cons_zero, List.set_cons_succ]
  apply wpAnyH_take (i := 16)
  case hi => (simp only [List.getElem?_toArray, List.getElem?_cons_succ, List.getElem?_cons_zero]; rfl)
  case hs => kernel_rfl
  case hf => kernel_rfl
  case hr => kernel_rfl
  case hQ => exact fun _ _ _ h => h
  case hy => exact Or.inr ⟨by rfl, rfl⟩
  case hS => assumption
  try simp only [Act.put, List.setIfInBounds_toArray, List.set_cons_zero, List.set_cons_succ]
  apply wpAnyH_take (i := 17)
  case hi => (simp only [List.getElem?_toArray, List.getElem?_cons_succ, List.getElem?_cons_zero]; rfl)
  case hs => kernel_rfl
  case hf => kernel_rfl
  case hr => kernel_rfl
  case hQ => exact fun _ _ _ h => h
  case hy => exact Or.inr ⟨by rfl, rfl⟩
  case hS => assumption
  try simp only [Act.put, List.setIfInBounds_toArray, List.set_cons_zero, List.set_cons_succ]
  apply wpAnyH_take (i := 18)
  case hi => (simp only [List.getElem?_toArray, List.getElem?_cons_succ, List.getElem?_cons_zero]; rfl)
  case hs => kernel_rfl
  case hf => kernel_rfl
  case hr => kernel_rfl
  case hQ => exact fun _ _ _ h => h
  case hy => exact Or.inr ⟨by rfl, rfl⟩
  case hS => assumption
  try simp only [Act.put, List.setIfInBounds_toArray, List.set_cons_zero, List.set_cons_succ]
  apply wpAnyH_take (i := 19)
  case hi => (simp only [List.getElem?_toArray, List.getElem?_cons_succ, List.getElem?_cons_zero]; rfl)
  case hs => kernel_rfl
  case hf => kernel_rfl
  case hr => kernel_rfl
  case hQ => exact fun _ _ _ h => h
  case hy => exact Or.inr ⟨by rfl, rfl⟩
  case hS => assumption
  try simp only [Act.put, List.setIfInBounds_toArray, List.set_cons_zero, List.set_cons_succ]
  apply wpAnyH_take (i := 20)
  case hi => (simp only [List.getElem?_toArray, List.getElem?_cons_succ, List.getElem?_cons_zero]; rfl)
  case hs => kernel_rfl
  case hf => kernel_rfl
  case hr => kernel_rfl
  case hQ => exact fun _ _ _ h => h
  case hy => exact Or.inr ⟨by rfl, rfl⟩
  case hS => assumption
  try simp only [Act.put, List.setIfInBounds_toArray, List.set_cons_zero, List.set_cons_succ]
  apply wpAnyH_take (i := 21)
  case hi => (simp only [List.getElem?_toArray, List.getElem?_cons_succ, List.getElem?_cons_zero]; rfl)
  case hs => kernel_rfl
  case hf => kernel_rfl
  case hr => kernel_rfl
  case hQ => exact fun _ _ _ h => h
  case hy => exact Or.inr ⟨by rfl, rfl⟩
  case hS => assumption
  try simp only [Act.put, List.setIfInBounds_toArray, List.set_cons_zero, List.set_cons_succ]
  apply wpAnyH_take (i := 22)
  case hi => (simp only [List.getElem?_toArray, List.getElem?_cons_succ, List.getElem?_cons_zero]; rfl)
  case hs => kernel_rfl
  case hf => kernel_rfl
  case hr => kernel_rfl
  case hQ => exact fun _ _ _ h => h
  case hy => exact Or.inr ⟨by rfl, rfl⟩
  case hS => assumption
  try simp only [Act.put, List.setIfInBounds_toArray, List.set_cons_zero, List.set_cons_succ]
  apply wpAnyH_take (i := 23)
  case hi => (simp only [List.getElem?_toArray, List.getElem?_cons_succ, List.getElem?_cons_zero]; rfl)
  case hs => kernel_rfl
  case hf => kernel_rfl
  case hr => kernel_rfl
  case hQ => exact fun _ _ _ h => h
  case hy => exact Or.inr ⟨by rfl, rfl⟩
  case hS => assumption
  try simp only [Act.put, List.setIfInBounds_toArray, List.set_cons_zero, List.set_cons_succ]
  apply wpAnyH_take (i := 24)
  case hi => (simp only [List.getElem?_toArray, List.getElem?_cons_succ, List.getElem?_cons_zero]; rfl)
  case hs => kernel_rfl
  case hf => kernel_rfl
  case hr => kernel_rfl
  case hQ => exact fun _ _ _ h => h
  case hy => (refine Or.inl ⟨by rfl, ?_⟩; (intro w' hSw; (try dsimp only at hSw); go_simp) <;> with_reducible rfl)
  case hS => assumption
  try simp only [Act.put, List.setIfInBounds_toArray, List.set_cons_zero, List.set_cons_succ]
  apply wpAnyH_take (i := 25)
  case hi => (simp only [List.getElem?_toArray, List.getElem?_cons_succ, List.getElem?_cons_zero]; rfl)
  case hs => kernel_rfl
  case hf => kernel_rfl
  case hr => kernel_rfl
  case hQ => exact fun _ _ _ h => h
  case hy => (refine Or.inl ⟨by rfl, ?_⟩; (intro w' hSw; (try dsimp only at hSw); go_simp) <;> with_reducible rfl)
  case hS => assumption
  try simp only [Act.put, List.setIfInBounds_toArray, List.set_cons_zero, List.set_cons_succ]
  refine wpAnyH_done (by kernel_rfl) ?_ _
  have HL2 := HS2.out _ KD
  clear hHeld
  obtain ⟨b0, b1⟩ := HL2
  go_wp2_with fail
  refine (ep_clone a 0 c L _ ((KB.trans KD).sl HS.out) hb).mono ?_
  rintro e V2 ⟨a2, c2, g2, rfl, hA2, K2, hg2⟩
  have hVs := KD.size
  have KD2 := KD.trans K2
  have HA2 := Lib.hid hA2
  have HL3 := HS2.out _ KD2
  clear b0 b1 hA2
  obtain ⟨b0, b1⟩ := HL3
  go_wp2_with fail
  go_quiet ((first | (go_at_call 28; exact Calls.quiet_of_same (unflip (stamp_off _ _ (by omega) (by omega)))) | (go_at_call 29; exact Calls.quiet_of_same (unflip (stamp_epoch _ _ (by omega) (by omega))))))
  generalize hV3 : World.drewN V2 _ = V3
  have K23 : Kept V2 V3 := hV3 ▸ (Kept.refl V2).dr ((Dr.refl V2).drewN _)
  have KD3 := KD2.trans K23
  have hV3s := K23.size
  have hV2s := K2.size
  have HA3 := Lib.hid (K23.only.app HA2.out (by simp))
  have HL4 := HS2.out _ KD3
  clear b0 b1 hV3 HA2
  obtain ⟨b0, b1⟩ := HL4
  have c1 := ((kept_al V3 (.cells #[.int .u64 s] 41))).cel b1
  have HO4 := HR.out
  go_wp2_with (at_builtin; refine wpList_app rfl (.tmp 55) (.tmp 57) 22 22 rfl elemW _ 0 _ _ rfl ((kept_al V3 _).only.app HA3.out (by simp)) _ 1 _ rfl (src_sl Try.underlying22 (sl_lit .u64 V3 41 (0, 0) [s] 1 rfl (by unfold maxLen; omega))) (by omega) (by unfold maxLen; omega) ?_; intro a4 c4 g4 V4 hA4 hO4 hG4; have K34 : Kept W V4 := (KD3.trans (kept_al V3 _)).onl hO4 (by intro i hi; cases g2 with | none => simp at hi | some k => (have := hg2 k rfl; simp at hi; omega)); have hR4 := K34.only.heap HR.out (by simp); obtain ⟨r0, r1⟩ := two_cells hR4; have f0 := one_free hR4 0; have f1 := one_free hR4 1; obtain ⟨d0, d1⟩ := two_cells (two_set hR4 (.slice a4 (0 + 1) c4) (.int .i64 (E + 1))); have x0' := K34.cel (two_cells HB.out).2; obtain ⟨hS4, hg4⟩ := app_slk (k := .u64) (xs := L ++ [s]) (by simpa [wordsV] using hA4); have hin : inB a4 [w.heap.size + 1] := (by intro x hx hm; have hgx := hg4 x hx; simp at hm; rcases hG4 with h' | h' <;> rw [hgx] at h'; (have := hg2 _ h'.symm; omega); (injection h' with h'; simp at h'; omega)); have hfr : ∀ y, a4 = some y → w.heap.size ≤ y.block := (by intro x hx; have hgx := hg4 x hx; rcases hG4 with h' | h' <;> rw [hgx] at h'; (have := hg2 _ h'.symm; omega); (injection h' with h'; simp at h'; omega)); have HS4 := Lib.hid (hS4); clear hS4 hA4 hR4)
  refine bodyPost_ret (v := .tuple #[.agg #[.slice a4 (0 + 1) c4, .int .i64 (E + 1)], .bool true]) (by simp [results, Try.results25, go_sem, d0, d1]) rfl ⟨a4, 0 + 1, c4, rfl, (only_set2 V4 _ _ _).sl HS4.out hin, hfr, (KB.trans K34).onl (only_set2 V4 _ _ _) (by intro i hi; simp at hi; omega)⟩
set_option maxRecDepth 100000 in
set_option maxHeartbeats 2000000 in
theorem ep_add_lt (a : Option Addr) (c : Nat) (t : Nat) (L : List Int) (E s : Int) (w : World) (hS : Sl .u64 w a (t + 1) c L) (hW : IsW L) (s0 : 0 ≤ s) (s1 : s ≤ 18446744073709551615) (hg : GoodT L E) (ho : ofI s = E) (hlt : epI (L.getD t 0) < epI s) (hb : (t + 1) ≤ 1000) :
    Calls Try.prog 25 #[.agg #[.slice a (t + 1) c, .int .i64 E], .int .u64 s] w fun e w' => ∃ a' n' c', e = .returned (.tuple #[.agg #[.slice a' n' c', .int .i64 (E + 1)], .bool true]) ∧ Sl .u64 w' a' n' c' (L ++ [s]) ∧ (∀ y, a' = some y → w.heap.size ≤ y.block) ∧ Kept w w' := by
  obtain ⟨b, o, x, rfl, hx, hxv⟩ := hS.at t (by omega)
  have hxb := hW t
  rw [← hxv.out] at hxb
  obtain ⟨x0, x1⟩ := hxb
  have hnc := hS.2.1
  have hcm := hS.2.2.1
  unfold maxLen at hcm
  have hz0 : decide (0 < (t : Int) + 1) = true := decide_eq_true (by omega)
  have hz1 : ((t : Int) + 1 == 0) = false := by simp; omega
  have hi : (t : Int) + 1 - 1 = t := by omega
  have ht1 : (t : Int) < (t : Int) + 1 := by omega
  have hw : IntKind.i64.wrap (t : Int) = t := by rw [IntKind.wrap_i64]; omega
  rw [← hxv.out] at hlt
  have hq1 : decide (epI s < epI x) = false := by simp; omega
  have hq2 : decide (epI x < epI s) = true := by simp; omega
  have HS := Lib.hid hS
  have KB : Kept w ((w.alloc (.cells #[.slice (some ⟨b, o, none⟩) (t + 1) c, .int .i64 E] 24)).alloc (.cells #[.slice none 0 0, .int .i64 0] 24)) := (((Only.refl [] w).alloc _).alloc _).kept
  have hR := two_new' w (.cells #[.slice (some ⟨b, o, none⟩) (t + 1) c, .int .i64 E] 24) (.cells #[.slice none 0 0, .int .i64 0] 24)
  have hB := (kept_al (w.alloc (.cells #[.slice (some ⟨b, o, none⟩) (t + 1) c, .int .i64 E] 24)) (.cells #[.slice none 0 0, .int .i64 0] 24)).only.heap (heap_alloc_new w (.cells #[.slice (some ⟨b, o, none⟩) (t + 1) c, .int .i64 E] 24)) (by simp)
  have GD := Lib.hid (fun V (k : Kept w V) => ep_good (some ⟨b, o, none⟩) (t + 1) c L E V (k.sl hS) hW)
  have HGD : Hid (decide (GoodT L E) = true) := decide_eq_true hg
  obtain ⟨-, hE0, hE1⟩ := hg
  have hso : (ofI s != E) = false := by simp [ho]
  obtain ⟨b0, b1⟩ := two_cells hB
  have HB := Lib.hid hB
  have HR := Lib.hid hR
  have hsz : w.heap.size + 1 < ((w.alloc (.cells #[.slice (some ⟨b, o, none⟩) (t + 1) c, .int .i64 E] 24)).alloc (.cells #[.slice none 0 0, .int .i64 0] 24)).heap.size := by simp
  have HX := Lib.hid (KB.cel hx)
  clear hS hR hW hx hxv
  go_enter Try.func25, Try.ntmps25
  go_wp2_with fail
  clear b0 b1 hB
  generalize World.alloc (World.alloc w _) _ = W at *
  have HS2 : Hid (∀ V, Kept W V → V.cell? ⟨w.heap.size, 0, none⟩ = some (.slice (some ⟨b, o, none⟩) (t + 1) c) ∧ V.cell? ⟨w.heap.size, 1, none⟩ = some (.int .i64 E) ∧ V.cell? ⟨b, o + t, none⟩ = some (.int .u64 x)) := fun V k => ⟨k.cel (two_cells HB.out).1, k.cel (two_cells HB.out).2, k.cel HX.out⟩
  have KD : Kept W W.drew := (Kept.refl _).dr ⟨1, rfl⟩
  refine wp_region_held_drew (S := fun w' => w'.cell? ⟨w.heap.size, 0, none⟩ = some (.slice (some ⟨b, o, none⟩) (t + 1) c) ∧ w'.cell? ⟨w.heap.size, 1, none⟩ = some (.int .i64 E) ∧ w'.cell? ⟨b, o + t, none⟩ = some (.int .u64 x)) (by kernel_rfl) (by exact HS2.out _ KD) (fun hHeld => ?_)
  apply wpAnyH_take (i := 0)
  case hi => (simp only [List.getElem?_toArray, List.getElem?_cons_succ, List.getElem?_cons_zero]; rfl)
  case hs => kernel_rfl
  case hf => kernel_rfl
  case hr => kernel_rfl
  case hQ => exact fun _ _ _ h => h
  case hy => (refine Or.inl ⟨by rfl, ?_⟩; (intro w' hSw; (try dsimp only at hSw); go_simp) <;> with_reducible rfl)
  case hS => assumption
  try simp only [Act.put, List.setIfInBounds_toArray, List.set_cons_zero, List.set_cons_succ]
  refine wpAnyH_ready (rs := [1]) (by kernel_rfl) (by simp) ?_
  apply AllReadyH.cons
  case ho => (simp only [List.getElem?_toArray, List.getElem?_cons_succ, List.getElem?_cons_zero]; rfl)
  case hs => exact AllReadyH.nil
  intro K hK
  go_simp
  go_at_call 8; refine (GD.out _ (KB.trans KD)).mono ?_; rintro e V ⟨rfl, J⟩; rw [HGD.out]; replace KD := KD.trans J; clear J
  refine hK.out _ _ (by exact HS2.out _ KD) (fun hHeld => ?_)
  clear hK K
  try simp only [Act.put, List.setIfInBounds_toArray, List.set_cons_zero, List.set_cons_succ]
  apply wpAnyH_take (i := 2)
  case hi => (simp only [List.getElem?_toArray, List.getElem?_cons_succ, List.getElem?_cons_zero]; rfl)
  case hs => kernel_rfl
  case hf => kernel_rfl
  case hr => kernel_rfl
  case hQ => exact fun _ _ _ h => h
  case hy => (refine Or.inl ⟨by rfl, ?_⟩; (intro w' hSw; (try dsimp only at hSw); go_simp) <;> with_reducible rfl)
  case hS => assumption
  try simp only [Act.put, List.setIfInBounds_toArray, List.set_cons_zero, List.set_cons_succ]
  apply wpAnyH_take (i := 3)
  case hi => (simp only [List.getElem?_toArray, List.getElem?_cons_succ, List.getElem?_cons_zero]; rfl)
  case hs => kernel_rfl
  case hf => kernel_rfl
  case hr => kernel_rfl
  case hQ => exact fun _ _ _ h => h
  case hy => (refine Or.inl ⟨by rfl, ?_⟩; (intro w' hSw; (try dsimp only at hSw); go_simp) <;> with_reducible rfl)
  case hS => assumption
  try simp only [Act.put, List.setIfInBounds_toArray, List.set_cons_zero, List.set_cons_succ]
  apply wpAnyH_take (i := 4)
  case hi => (simp only [List.getElem?_toArray, List.getElem?_cons_succ, List.getElem?_cons_zero]; rfl)
  case hs => kernel_rfl
  case hf => kernel_rfl
  case hr => kernel_rfl
  case hQ => exact fun _ _ _ h => h
  case hy => (refine Or.inl ⟨by rfl, ?_⟩; (intro w' hSw; (try dsimp only at hSw); go_simp) <;> with_reducible rfl)
  case hS => assumption
  try simp only [Act.put, List.setIfInBounds_toArray, List.set_cons_zero, List.set_cons_succ]
  apply wpAnyH_take (i := 6)
  case hi => (simp only [List.getElem?_toArray, List.getElem?_cons_succ, List.getElem?_cons_zero]; rfl)
  case hs => kernel_rfl
  case hf => kernel_rfl
  case hr => kernel_rfl
  case hQ => exact fun _ _ _ h => h
  case hy => (refine Or.inl ⟨by rfl, ?_⟩; (intro w' hSw; (try dsimp only at hSw); go_simp) <;> with_reducible rfl)
  case hS => assumption
  try simp only [Act.put, List.setIfInBounds_toArray, List.set_cons_zero, List.set_cons_succ]
  apply wpAnyH_take (i := 7)
  case hi => (simp only [List.getElem?_toArray, List.getElem?_cons_succ, List.getElem?_cons_zero]; rfl)
  case hs => kernel_rfl
  case hf => kernel_rfl
  case hr => kernel_rfl
  case hQ => exact fun _ _ _ h => h
  case hy => (refine Or.inl ⟨by rfl, ?_⟩; (intro w' hSw; (try dsimp only at hSw); go_simp) <;> with_reducible rfl)
  case hS => assumption
  try simp only [Act.put, List.setIfInBounds_toArray, List.set_cons_zero, List.set_cons_succ]
  refine wpAnyH_ready (rs := [5]) (by kernel_rfl) (by simp) ?_
  apply AllReadyH.cons
  case ho => (simp only [List.getElem?_toArray, List.getElem?_cons_succ, List.getElem?_cons_zero]; rfl)
  case hs => exact AllReadyH.nil
  intro K hK
  go_simp
  go_at_call 28; refine (stamp_off _ _ (by omega) (by omega)).mono ?_; rintro e V' ⟨rfl, rfl⟩
  refine hK.out _ _ (by exact HS2.out _ KD) (fun hHeld => ?_)
  clear hK K
  try simp only [Act.put, List.setIfInBounds_toArray, List.set_cons_zero, List.set_cons_succ]
  apply wpAnyH_take (i := 8)
  case hi => (simp only [List.getElem?_toArray, List.getElem?_cons_succ, List.getElem?_cons_zero]; rfl)
  case hs => kernel_rfl
  case hf => kernel_rfl
  case hr => kernel_rfl
  case hQ => exact fun _ _ _ h => h
  case hy => (refine Or.inl ⟨by rfl, ?_⟩; (intro w' hSw; (try dsimp only at hSw); go_simp) <;> with_reducible rfl)
  case hS => assumption
  try simp only [Act.put, List.setIfInBounds_toArray, List.set_cons_zero, List.set_cons_succ]
  apply wpAnyH_take (i := 9)
  case hi => (simp only [List.getElem?_toArray, List.getElem?_cons_succ, List.getElem?_cons_zero]; rfl)
  case hs => kernel_rfl
  case hf => kernel_rfl
  case hr => kernel_rfl
  case hQ => exact fun _ _ _ h => h
  case hy => (refine Or.inl ⟨by rfl, ?_⟩; (intro w' hSw; (try dsimp only at hSw); go_simp) <;> with_reducible rfl)
  case hS => assumption
  try simp only [Act.put, List.setIfInBounds_toArray, List.set_cons_zero, List.set_cons_succ]
  apply wpAnyH_take (i := 10)
  case hi => (simp only [List.getElem?_toArray, List.getElem?_cons_succ, List.getElem?_cons_zero]; rfl)
  case hs => kernel_rfl
  case hf => kernel_rfl
  case hr => kernel_rfl
  case hQ => exact fun _ _ _ h => h
  case hy => (refine Or.inl ⟨by rfl, ?_⟩; (intro w' hSw; (try dsimp only at hSw); go_simp) <;> with_reducible rfl)
  case hS => assumption
  try simp only [Act.put, List.setIfInBounds_toArray, List.set_cons_zero, List.set_cons_succ]
  apply wpAnyH_take (i := 11)
  case hi => (simp only [List.getElem?_toArray, List.getElem?_cons_succ, List.getElem?_cons_zero]; rfl)
  case hs => kernel_rfl
  case hf => kernel_rfl
  case hr => kernel_rfl
  case hQ => exact fun _ _ _ h => h
  case hy => (refine Or.inl ⟨by rfl, ?_⟩; (intro w' hSw; (try dsimp only at hSw); go_simp) <;> with_reducible rfl)
  case hS => assumption
  try simp only [Act.put, List.setIfInBounds_toArray, List.set_cons_zero, List.set_cons_succ]
  apply wpAnyH_take (i := 12)
  case hi => (simp only [List.getElem?_toArray, List.getElem?_cons_succ, List.getElem?_cons_zero]; rfl)
  case hs => kernel_rfl
  case hf => kernel_rfl
  case hr => kernel_rfl
  case hQ => exact fun _ _ _ h => h
  case hy => (refine Or.inl ⟨by rfl, ?_⟩; (intro w' hSw; (try dsimp only at hSw); go_simp) <;> with_reducible rfl)
  case hS => assumption
  try simp only [Act.put, List.setIfInBounds_toArray, List.set_cons_zero, List.set_cons_succ]
  apply wpAnyH_take (i := 13)
  case hi => (simp only [List.getElem?_toArray, List.getElem?_cons_succ, List.getElem?_cons_zero]; rfl)
  case hs => kernel_rfl
  case hf => kernel_rfl
  case hr => kernel_rfl
  case hQ => exact fun _ _ _ h => h
  case hy => (refine Or.inl ⟨by rfl, ?_⟩; (intro w' hSw; (try dsimp only at hSw); go_simp) <;> with_reducible rfl)
  case hS => assumption
  try simp only [Act.put, List.setIfInBounds_toArray, List.set_cons_zero, List.set_cons_succ]
  apply wpAnyH_take (i := 14)
  case hi => (simp only [List.getElem?_toArray, List.getElem?_cons_succ, List.getElem?_cons_zero]; rfl)
  case hs => kernel_rfl
  case hf => kernel_rfl
  case hr => kernel_rfl
  case hQ => exact fun _ _ _ h => h
  case hy => (refine Or.inl ⟨by rfl, ?_⟩; (intro w' hSw; (try dsimp only at hSw); go_simp) <;> with_reducible rfl)
  case hS => assumption
  try simp only [Act.put, List.setIfInBounds_toArray, List.set_cons_zero, List.set_cons_succ]
  apply wpAnyH_take (i := 16)
  case hi => (simp only [List.getElem?_toArray, List.getElem?_cons_succ, List.getElem?_cons_zero]; rfl)
  case hs => kernel_rfl
  case hf => kernel_rfl
  case hr => kernel_rfl
  case hQ => exact fun _ _ _ h => h
  case hy => (refine Or.inl ⟨by rfl, ?_⟩; (intro w' hSw; (try dsimp only at hSw); go_simp) <;> with_reducible rfl)
  case hS => assumption
  try simp only [Act.put, List.setIfInBounds_toArray, List.set_cons_zero, List.set_cons_succ]
  apply wpAnyH_take (i := 17)
  case hi => (simp only [List.getElem?_toArray, List.getElem?_cons_succ, List.getElem?_cons_zero]; rfl)
  case hs => kernel_rfl
  case hf => kernel_rfl
  case hr => kernel_rfl
  case hQ => exact fun _ _ _ h => h
  case hy => (refine Or.inl ⟨by rfl, ?_⟩; (intro w' hSw; (try dsimp only at hSw); go_simp) <;> with_reducible rfl)
  case hS => assumption
  try simp only [Act.put, List.setIfInBounds_toArray, List.set_cons_zero, List.set_cons_succ]
  apply wpAnyH_take (i := 18)
  case hi => (simp only [List.getElem?_toArray, List.getElem?_cons_succ, List.getElem?_cons_zero]; rfl)
  case hs => kernel_rfl
  case hf => kernel_rfl
  case hr => kernel_rfl
  case hQ => exact fun _ _ _ h => h
  case hy => (refine Or.inl ⟨by rfl, ?_⟩; (intro w' hSw; (try dsimp only at hSw); go_simp) <;> with_reducible rfl)
  case hS => assumption
  try simp only [Act.put, List.setIfInBounds_toArray, List.set_cons_zero, List.set_cons_succ]
  apply wpAnyH_take (i := 19)
  case hi => (simp only [List.getElem?_toArray, List.getElem?_cons_succ, List.getElem?_cons_zero]; rfl)
  case hs => kernel_rfl
  case hf => kernel_rfl
  case hr => kernel_rfl
  case hQ => exact fun _ _ _ h => h
  case hy => (refine Or.inl ⟨by rfl, ?_⟩; (intro w' hSw; (try dsimp only at hSw); go_simp) <;> with_reducible rfl)
  case hS => assumption
  try simp only [Act.put, List.setIfInBounds_toArray, List.set_cons_zero, List.set_cons_succ]
  apply wpAnyH_take (i := 20)
  case hi => (simp only [List.getElem?_toArray, List.getElem?_cons_succ, List.getElem?_cons_zero]; rfl)
  case hs => kernel_rfl
  case hf => kernel_rfl
  case hr => kernel_rfl
  case hQ => exact fun _ _ _ h => h
  case hy => (refine Or.inl ⟨by rfl, ?_⟩; (intro w' hSw; (try dsimp only at hSw); go_simp) <;> with_reducible rfl)
  case hS => assumption
  try simp only [Act.put, List.setIfInBounds_toArray, List.set_cons_zero, List.set_cons_succ]
  apply wpAnyH_take (i := 21)
  case hi => (simp only [List.getElem?_toArray, List.getElem?_cons_succ, List.getElem?_cons_zero]; rfl)
  case hs => kernel_rfl
  case hf => kernel_rfl
  case hr => kernel_rfl
  case hQ => exact fun _ _ _ h => h
  case hy => (refine Or.inl ⟨by rfl, ?_⟩; (intro w' hSw; (try dsimp only at hSw); go_simp) <;> with_reducible rfl)
  case hS => assumption
  try simp only [Act.put, List.setIfInBounds_toArray, List.set_cons_zero, List.set_cons_succ]
  refine wpAnyH_ready (rs := [15]) (by kernel_rfl) (by simp) ?_
  apply AllReadyH.cons
  case ho => (simp only [List.getElem?_toArray, List.getElem?_cons_succ, List.getElem?_cons_zero]; rfl)
  case hs => exact AllReadyH.nil
  intro K hK
  go_simp
  go_at_call 29; refine (stamp_epoch _ _ (by omega) (by omega)).mono ?_; rintro e V' ⟨rfl, rfl⟩
  refine hK.out _ _ (by exact HS2.out _ KD) (fun hHeld => ?_)
  clear hK K
  try simp only [Act.put, List.setIfInBounds_toArray, List.set_cons_zero, List.set_cons_succ]
  refine wpAnyH_ready (rs := [22]) (by kernel_rfl) (by simp) ?_
  apply AllReadyH.cons
  case ho => (simp only [List.getElem?_toArray, List.getElem?_cons_succ, List.getElem?_cons_zero]; rfl)
  case hs => exact AllReadyH.nil
  intro K hK
  go_simp
  go_at_call 29; refine (stamp_epoch _ _ (by omega) (by omega)).mono ?_; rintro e V' ⟨rfl, rfl⟩
  refine hK.out _ _ (by exact HS2.out _ KD) (fun hHeld => ?_)
  clear hK K
  try simp only [Act.put, List.setIfInBounds_toArray, List.set_cons_zero, List.set_cons_succ]
  apply wpAnyH_take (i := 23)
  case hi => (simp only [List.getElem?_toArray, List.getElem?_cons_succ, List.getElem?_cons_zero]; rfl)
  case hs => kernel_rfl
  case hf => kernel_rfl
  case hr => kernel_rfl
  case hQ => exact fun _ _ _ h => h
  case hy => (refine Or.inl ⟨by rfl, ?_⟩; (intro w' hSw; (try dsimp only at hSw); go_simp) <;> with_reducible rfl)
  case hS => assumption
  try simp only [Act.put, List.setIfInBounds_toArray, List.set_cons_zero, List.set_cons_succ]
  apply wpAnyH_take (i := 24)
  case hi => (simp only [List.getElem?_toArray, List.getElem?_cons_succ, List.getElem?_cons_zero]; rfl)
  case hs => kernel_rfl
  case hf => kernel_rfl
  case hr => kernel_rfl
  case hQ => exact fun _ _ _ h => h
  case hy => (refine Or.inl ⟨by rfl, ?_⟩; (intro w' hSw; (try dsimp only at hSw); go_simp) <;> with_reducible rfl)
  case hS => assumption
  try simp only [Act.put, List.setIfInBounds_toArray, List.set_cons_zero, List.set_cons_succ]
  apply wpAnyH_take (i := 25)
  case hi => (simp only [List.getElem?_toArray, List.getElem?_cons_succ, List.getElem?_cons_zero]; rfl)
  case hs => kernel_rfl
  case hf => kernel_rfl
  case hr => kernel_rfl
  case hQ => exact fun _ _ _ h => h
  case hy => (refine Or.inl ⟨by rfl, ?_⟩; (intro w' hSw; (try dsimp only at hSw); go_simp) <;> with_reducible rfl)
  case hS => assumption
  try simp only [Act.put, List.setIfInBounds_toArray, List.set_cons_zero, List.set_cons_succ]
  refine wpAnyH_done (by kernel_rfl) ?_ _
  have HL2 := HS2.out _ KD
  clear hHeld
  obtain ⟨b0, b1, b2⟩ := HL2
  go_wp2_with fail
  refine (ep_clone (some ⟨b, o, none⟩) (t + 1) c L _ ((KB.trans KD).sl HS.out) hb).mono ?_
  rintro e V2 ⟨a2, c2, g2, rfl, hA2, K2, hg2⟩
  have hVs := KD.size
  have KD2 := KD.trans K2
  have HA2 := Lib.hid hA2
  have HL3 := HS2.out _ KD2
  clear b0 b1 b2 hA2
  obtain ⟨b0, b1, b2⟩ := HL3
  go_wp2_with fail
  go_quiet ((first | (go_at_call 28; exact Calls.quiet_of_same (unflip (stamp_off _ _ (by omega) (by omega)))) | (go_at_call 29; exact Calls.quiet_of_same (unflip (stamp_epoch _ _ (by omega) (by omega))))))
  generalize hV3 : World.drewN V2 _ = V3
  have K23 : Kept V2 V3 := hV3 ▸ (Kept.refl V2).dr ((Dr.refl V2).drewN _)
  have KD3 := KD2.trans K23
  have hV3s := K23.size
  have hV2s := K2.size
  have HA3 := Lib.hid (K23.only.app HA2.out (by simp))
  have HL4 := HS2.out _ KD3
  clear b0 b1 b2 hV3 HA2
  obtain ⟨b0, b1, b2⟩ := HL4
  have c1 := ((kept_al V3 (.cells #[.int .u64 s] 41))).cel b1
  have HO4 := HR.out
  go_wp2_with (at_builtin; refine wpList_app rfl (.tmp 55) (.tmp 57) 22 22 rfl elemW _ (t + 1) _ _ rfl ((kept_al V3 _).only.app HA3.out (by simp)) _ 1 _ rfl (src_sl Try.underlying22 (sl_lit .u64 V3 41 (0, 0) [s] 1 rfl (by unfold maxLen; omega))) (by omega) (by unfold maxLen; omega) ?_; intro a4 c4 g4 V4 hA4 hO4 hG4; have K34 : Kept W V4 := (KD3.trans (kept_al V3 _)).onl hO4 (by intro i hi; cases g2 with | none => simp at hi | some k => (have := hg2 k rfl; simp at hi; omega)); have hR4 := K34.only.heap HR.out (by simp); obtain ⟨r0, r1⟩ := two_cells hR4; have f0 := one_free hR4 0; have f1 := one_free hR4 1; obtain ⟨d0, d1⟩ := two_cells (two_set hR4 (.slice a4 ((t + 1) + 1) c4) (.int .i64 (E + 1))); have x0' := K34.cel (two_cells HB.out).2; obtain ⟨hS4, hg4⟩ := app_slk (k := .u64) (xs := L ++ [s]) (by simpa [wordsV] using hA4); have hin : inB a4 [w.heap.size + 1] := (by intro x hx hm; have hgx := hg4 x hx; simp at hm; rcases hG4 with h' | h' <;> rw [hgx] at h'; (have := hg2 _ h'.symm; omega); (injection h' with h'; simp at h'; omega)); have hfr : ∀ y, a4 = some y → w.heap.size ≤ y.block := (by intro x hx; have hgx := hg4 x hx; rcases hG4 with h' | h' <;> rw [hgx] at h'; (have := hg2 _ h'.symm; omega); (injection h' with h'; simp at h'; omega)); have HS4 := Lib.hid (hS4); clear hS4 hA4 hR4)
  refine bodyPost_ret (v := .tuple #[.agg #[.slice a4 ((t + 1) + 1) c4, .int .i64 (E + 1)], .bool true]) (by simp [results, Try.results25, go_sem, d0, d1]) rfl ⟨a4, (t + 1) + 1, c4, rfl, (only_set2 V4 _ _ _).sl HS4.out hin, hfr, (KB.trans K34).onl (only_set2 V4 _ _ _) (by intro i hi; simp at hi; omega)⟩
set_option maxRecDepth 100000 in
set_option maxHeartbeats 2000000 in
theorem ep_add_eq (a : Option Addr) (c : Nat) (t : Nat) (L : List Int) (E s : Int) (w : World) (hS : Sl .u64 w a (t + 1) c L) (hW : IsW L) (s0 : 0 ≤ s) (s1 : s ≤ 18446744073709551615) (hg : GoodT L E) (ho : ofI s = E) (heq : epI (L.getD t 0) = epI s) (hb : (t + 1) ≤ 1000) :
    Calls Try.prog 25 #[.agg #[.slice a (t + 1) c, .int .i64 E], .int .u64 s] w fun e w' => ∃ a' n' c', e = .returned (.tuple #[.agg #[.slice a' n' c', .int .i64 (E + 1)], .bool true]) ∧ Sl .u64 w' a' n' c' (L) ∧ (∀ y, a' = some y → w.heap.size ≤ y.block) ∧ Kept w w' := by
  obtain ⟨b, o, x, rfl, hx, hxv⟩ := hS.at t (by omega)
  have hxb := hW t
  rw [← hxv.out] at hxb
  obtain ⟨x0, x1⟩ := hxb
  have hnc := hS.2.1
  have hcm := hS.2.2.1
  unfold maxLen at hcm
  have hz0 : decide (0 < (t : Int) + 1) = true := decide_eq_true (by omega)
  have hz1 : ((t : Int) + 1 == 0) = false := by simp; omega
  have hi : (t : Int) + 1 - 1 = t := by omega
  have ht1 : (t : Int) < (t : Int) + 1 := by omega
  have hw : IntKind.i64.wrap (t : Int) = t := by rw [IntKind.wrap_i64]; omega
  rw [← hxv.out] at heq
  have hq1 : decide (epI s < epI x) = false := by simp; omega
  have hq2 : decide (epI x < epI s) = false := by simp; omega
  have HS := Lib.hid hS
  have KB : Kept w ((w.alloc (.cells #[.slice (some ⟨b, o, none⟩) (t + 1) c, .int .i64 E] 24)).alloc (.cells #[.slice none 0 0, .int .i64 0] 24)) := (((Only.refl [] w).alloc _).alloc _).kept
  have hR := two_new' w (.cells #[.slice (some ⟨b, o, none⟩) (t + 1) c, .int .i64 E] 24) (.cells #[.slice none 0 0, .int .i64 0] 24)
  have hB := (kept_al (w.alloc (.cells #[.slice (some ⟨b, o, none⟩) (t + 1) c, .int .i64 E] 24)) (.cells #[.slice none 0 0, .int .i64 0] 24)).only.heap (heap_alloc_new w (.cells #[.slice (some ⟨b, o, none⟩) (t + 1) c, .int .i64 E] 24)) (by simp)
  have GD := Lib.hid (fun V (k : Kept w V) => ep_good (some ⟨b, o, none⟩) (t + 1) c L E V (k.sl hS) hW)
  have HGD : Hid (decide (GoodT L E) = true) := decide_eq_true hg
  obtain ⟨-, hE0, hE1⟩ := hg
  have hso : (ofI s != E) = false := by simp [ho]
  obtain ⟨b0, b1⟩ := two_cells hB
  have HB := Lib.hid hB
  have HR := Lib.hid hR
  have hsz : w.heap.size + 1 < ((w.alloc (.cells #[.slice (some ⟨b, o, none⟩) (t + 1) c, .int .i64 E] 24)).alloc (.cells #[.slice none 0 0, .int .i64 0] 24)).heap.size := by simp
  have HX := Lib.hid (KB.cel hx)
  clear hS hR hW hx hxv
  go_enter Try.func25, Try.ntmps25
  go_wp2_with fail
  clear b0 b1 hB
  generalize World.alloc (World.alloc w _) _ = W at *
  have HS2 : Hid (∀ V, Kept W V → V.cell? ⟨w.heap.size, 0, none⟩ = some (.slice (some ⟨b, o, none⟩) (t + 1) c) ∧ V.cell? ⟨w.heap.size, 1, none⟩ = some (.int .i64 E) ∧ V.cell? ⟨b, o + t, none⟩ = some (.int .u64 x)) := fun V k => ⟨k.cel (two_cells HB.out).1, k.cel (two_cells HB.out).2, k.cel HX.out⟩
  have KD : Kept W W.drew := (Kept.refl _).dr ⟨1, rfl⟩
  refine wp_region_held_drew (S := fun w' => w'.cell? ⟨w.heap.size, 0, none⟩ = some (.slice (some ⟨b, o, none⟩) (t + 1) c) ∧ w'.cell? ⟨w.heap.size, 1, none⟩ = some (.int .i64 E) ∧ w'.cell? ⟨b, o + t, none⟩ = some (.int .u64 x)) (by kernel_rfl) (by exact HS2.out _ KD) (fun hHeld => ?_)
  apply wpAnyH_take (i := 0)
  case hi => (simp only [List.getElem?_toArray, List.getElem?_cons_succ, List.getElem?_cons_zero]; rfl)
  case hs => kernel_rfl
  case hf => kernel_rfl
  case hr => kernel_rfl
  case hQ => exact fun _ _ _ h => h
  case hy => (refine Or.inl ⟨by rfl, ?_⟩; (intro w' hSw; (try dsimp only at hSw); go_simp) <;> with_reducible rfl)
  case hS => assumption
  try simp only [Act.put, List.setIfInBounds_toArray, List.set_cons_zero, List.set_cons_succ]
  refine wpAnyH_ready (rs := [1]) (by kernel_rfl) (by simp) ?_
  apply AllReadyH.cons
  case ho => (simp only [List.getElem?_toArray, List.getElem?_cons_succ, List.getElem?_cons_zero]; rfl)
  case hs => exact AllReadyH.nil
  intro K hK
  go_simp
  go_at_call 8; refine (GD.out _ (KB.trans KD)).mono ?_; rintro e V ⟨rfl, J⟩; rw [HGD.out]; replace KD := KD.trans J; clear J
  refine hK.out _ _ (by exact HS2.out _ KD) (fun hHeld => ?_)
  clear hK K
  try simp only [Act.put, List.setIfInBounds_toArray, List.set_cons_zero, List.set_cons_succ]
  apply wpAnyH_take (i := 2)
  case hi => (simp only [List.getElem?_toArray, List.getElem?_cons_succ, List.getElem?_cons_zero]; rfl)
  case hs => kernel_rfl
  case hf => kernel_rfl
  case hr => kernel_rfl
  case hQ => exact fun _ _ _ h => h
  case hy => (refine Or.inl ⟨by rfl, ?_⟩; (intro w' hSw; (try dsimp only at hSw); go_simp) <;> with_reducible rfl)
  case hS => assumption
  try simp only [Act.put, List.setIfInBounds_toArray, List.set_cons_zero, List.set_cons_succ]
  apply wpAnyH_take (i := 3)
  case hi => (simp only [List.getElem?_toArray, List.getElem?_cons_succ, List.getElem?_cons_zero]; rfl)
  case hs => kernel_rfl
  case hf => kernel_rfl
  case hr => kernel_rfl
  case hQ => exact fun _ _ _ h => h
  case hy => (refine Or.inl ⟨by rfl, ?_⟩; (intro w' hSw; (try dsimp only at hSw); go_simp) <;> with_reducible rfl)
  case hS => assumption
  try simp only [Act.put, List.setIfInBounds_toArray, List.set_cons_zero, List.set_cons_succ]
  apply wpAnyH_take (i := 4)
  case hi => (simp only [List.getElem?_toArray, List.getElem?_cons_succ, List.getElem?_cons_zero]; rfl)
  case hs => kernel_rfl
  case hf => kernel_rfl
  case hr => kernel_rfl
  case hQ => exact fun _ _ _ h => h
  case hy => (refine Or.inl ⟨by rfl, ?_⟩; (intro w' hSw; (try dsimp only at hSw); go_simp) <;> with_reducible rfl)
  case hS => assumption
  try simp only [Act.put, List.setIfInBounds_toArray, List.set_cons_zero, List.set_cons_succ]
  apply wpAnyH_take (i := 6)
  case hi => (simp only [List.getElem?_toArray, List.getElem?_cons_succ, List.getElem?_cons_zero]; rfl)
  case hs => kernel_rfl
  case hf => kernel_rfl
  case hr => kernel_rfl
  case hQ => exact fun _ _ _ h => h
  case hy => (refine Or.inl ⟨by rfl, ?_⟩; (intro w' hSw; (try dsimp only at hSw); go_simp) <;> with_reducible rfl)
  case hS => assumption
  try simp only [Act.put, List.setIfInBounds_toArray, List.set_cons_zero, List.set_cons_succ]
  apply wpAnyH_take (i := 7)
  case hi => (simp only [List.getElem?_toArray, List.getElem?_cons_succ, List.getElem?_cons_zero]; rfl)
  case hs => kernel_rfl
  case hf => kernel_rfl
  case hr => kernel_rfl
  case hQ => exact fun _ _ _ h => h
  case hy => (refine Or.inl ⟨by rfl, ?_⟩; (intro w' hSw; (try dsimp only at hSw); go_simp) <;> with_reducible rfl)
  case hS => assumption
  try simp only [Act.put, List.setIfInBounds_toArray, List.set_cons_zero, List.set_cons_succ]
  refine wpAnyH_ready (rs := [5]) (by kernel_rfl) (by simp) ?_
  apply AllReadyH.cons
  case ho => (simp only [List.getElem?_toArray, List.getElem?_cons_succ, List.getElem?_cons_zero]; rfl)
  case hs => exact AllReadyH.nil
  intro K hK
  go_simp
  go_at_call 28; refine (stamp_off _ _ (by omega) (by omega)).mono ?_; rintro e V' ⟨rfl, rfl⟩
  refine hK.out _ _ (by exact HS2.out _ KD) (fun hHeld => ?_)
  clear hK K
  try simp only [Act.put, List.setIfInBounds_toArray, List.set_cons_zero, List.set_cons_succ]
  apply wpAnyH_take (i := 8)
  case hi => (simp only [List.getElem?_toArray, List.getElem?_cons_succ, List.getElem?_cons_zero]; rfl)
  case hs => kernel_rfl
  case hf => kernel_rfl
  case hr => kernel_rfl
  case hQ => exact fun _ _ _ h => h
  case hy => (refine Or.inl ⟨by rfl, ?_⟩; (intro w' hSw; (try dsimp only at hSw); go_simp) <;> with_reducible rfl)
  case hS => assumption
  try simp only [Act.put, List.setIfInBounds_toArray, List.set_cons_zero, List.set_cons_succ]
  apply wpAnyH_take (i := 9)
  case hi => (simp only [List.getElem?_toArray, List.getElem?_cons_succ, List.getElem?_cons_zero]; rfl)
  case hs => kernel_rfl
  case hf => kernel_rfl
  case hr => kernel_rfl
  case hQ => exact fun _ _ _ h => h
  case hy => (refine Or.inl ⟨by rfl, ?_⟩; (intro w' hSw; (try dsimp only at hSw); go_simp) <;> with_reducible rfl)
  case hS => assumption
  try simp only [Act.put, List.setIfInBounds_toArray, List.set_cons_zero, List.set_cons_succ]
  apply wpAnyH_take (i := 10)
  case hi => (simp only [List.getElem?_toArray, List.getElem?_cons_succ, List.getElem?_cons_zero]; rfl)
  case hs => kernel_rfl
  case hf => kernel_rfl
  case hr => kernel_rfl
  case hQ => exact fun _ _ _ h => h
  case hy => (refine Or.inl ⟨by rfl, ?_⟩; (intro w' hSw; (try dsimp only at hSw); go_simp) <;> with_reducible rfl)
  case hS => assumption
  try simp only [Act.put, List.setIfInBounds_toArray, List.set_cons_zero, List.set_cons_succ]
  apply wpAnyH_take (i := 11)
  case hi => (simp only [List.getElem?_toArray, List.getElem?_cons_succ, List.getElem?_cons_zero]; rfl)
  case hs => kernel_rfl
  case hf => kernel_rfl
  case hr => kernel_rfl
  case hQ => exact fun _ _ _ h => h
  case hy => (refine Or.inl ⟨by rfl, ?_⟩; (intro w' hSw; (try dsimp only at hSw); go_simp) <;> with_reducible rfl)
  case hS => assumption
  try simp only [Act.put, List.setIfInBounds_toArray, List.set_cons_zero, List.set_cons_succ]
  apply wpAnyH_take (i := 12)
  case hi => (simp only [List.getElem?_toArray, List.getElem?_cons_succ, List.getElem?_cons_zero]; rfl)
  case hs => kernel_rfl
  case hf => kernel_rfl
  case hr => kernel_rfl
  case hQ => exact fun _ _ _ h => h
  case hy => (refine Or.inl ⟨by rfl, ?_⟩; (intro w' hSw; (try dsimp only at hSw); go_simp) <;> with_reducible rfl)
  case hS => assumption
  try simp only [Act.put, List.setIfInBounds_toArray, List.set_cons_zero, List.set_cons_succ]
  apply wpAnyH_take (i := 13)
  case hi => (simp only [List.getElem?_toArray, List.getElem?_cons_succ, List.getElem?_cons_zero]; rfl)
  case hs => kernel_rfl
  case hf => kernel_rfl
  case hr => kernel_rfl
  case hQ => exact fun _ _ _ h => h
  case hy => (refine Or.inl ⟨by rfl, ?_⟩; (intro w' hSw; (try dsimp only at hSw); go_simp) <;> with_reducible rfl)
  case hS => assumption
  try simp only [Act.put, List.setIfInBounds_toArray, List.set_cons_zero, List.set_cons_succ]
  apply wpAnyH_take (i := 14)
  case hi => (simp only [List.getElem?_toArray, List.getElem?_cons_succ, List.getElem?_cons_zero]; rfl)
  case hs => kernel_rfl
  case hf => kernel_rfl
  case hr => kernel_rfl
  case hQ => exact fun _ _ _ h => h
  case hy => (refine Or.inl ⟨by rfl, ?_⟩; (intro w' hSw; (try dsimp only at hSw); go_simp) <;> with_reducible rfl)
  case hS => assumption
  try simp only [Act.put, List.setIfInBounds_toArray, List.set_cons_zero, List.set_cons_succ]
  apply wpAnyH_take (i := 16)
  case hi => (simp only [List.getElem?_toArray, List.getElem?_cons_succ, List.getElem?_cons_zero]; rfl)
  case hs => kernel_rfl
  case hf => kernel_rfl
  case hr => kernel_rfl
  case hQ => exact fun _ _ _ h => h
  case hy => (refine Or.inl ⟨by rfl, ?_⟩; (intro w' hSw; (try dsimp only at hSw); go_simp) <;> with_reducible rfl)
  case hS => assumption
  try simp only [Act.put, List.setIfInBounds_toArray, List.set_cons_zero, List.set_cons_succ]
  apply wpAnyH_take (i := 17)
  case hi => (simp only [List.getElem?_toArray, List.getElem?_cons_succ, List.getElem?_cons_zero]; rfl)
  case hs => kernel_rfl
  case hf => kernel_rfl
  case hr => kernel_rfl
  case hQ => exact fun _ _ _ h => h
  case hy => (refine Or.inl ⟨by rfl, ?_⟩; (intro w' hSw; (try dsimp only at hSw); go_simp) <;> with_reducible rfl)
  case hS => assumption
  try simp only [Act.put, List.setIfInBounds_toArray, List.set_cons_zero, List.set_cons_succ]
  apply wpAnyH_take (i := 18)
  case hi => (simp only [List.getElem?_toArray, List.getElem?_cons_succ, List.getElem?_cons_zero]; rfl)
  case hs => kernel_rfl
  case hf => kernel_rfl
  case hr => kernel_rfl
  case hQ => exact fun _ _ _ h => h
  case hy => (refine Or.inl ⟨by rfl, ?_⟩; (intro w' hSw; (try dsimp only at hSw); go_simp) <;> with_reducible rfl)
  case hS => assumption
  try simp only [Act.put, List.setIfInBounds_toArray, List.set_cons_zero, List.set_cons_succ]
  apply wpAnyH_take (i := 19)
  case hi => (simp only [List.getElem?_toArray, List.getElem?_cons_succ, List.getElem?_cons_zero]; rfl)
  case hs => kernel_rfl
  case hf => kernel_rfl
  case hr => kernel_rfl
  case hQ => exact fun _ _ _ h => h
  case hy => (refine Or.inl ⟨by rfl, ?_⟩; (intro w' hSw; (try dsimp only at hSw); go_simp) <;> with_reducible rfl)
  case hS => assumption
  try simp only [Act.put, List.setIfInBounds_toArray, List.set_cons_zero, List.set_cons_succ]
  apply wpAnyH_take (i := 20)
  case hi => (simp only [List.getElem?_toArray, List.getElem?_cons_succ, List.getElem?_cons_zero]; rfl)
  case hs => kernel_rfl
  case hf => kernel_rfl
  case hr => kernel_rfl
  case hQ => exact fun _ _ _ h => h
  case hy => (refine Or.inl ⟨by rfl, ?_⟩; (intro w' hSw; (try dsimp only at hSw); go_simp) <;> with_reducible rfl)
  case hS => assumption
  try simp only [Act.put, List.setIfInBounds_toArray, List.set_cons_zero, List.set_cons_succ]
  apply wpAnyH_take (i := 21)
  case hi => (simp only [List.getElem?_toArray, List.getElem?_cons_succ, List.getElem?_cons_zero]; rfl)
  case hs => kernel_rfl
  case hf => kernel_rfl
  case hr => kernel_rfl
  case hQ => exact fun _ _ _ h => h
  case hy => (refine Or.inl ⟨by rfl, ?_⟩; (intro w' hSw; (try dsimp only at hSw); go_simp) <;> with_reducible rfl)
  case hS => assumption
  try simp only [Act.put, List.setIfInBounds_toArray, List.set_cons_zero, List.set_cons_succ]
  refine wpAnyH_ready (rs := [15]) (by kernel_rfl) (by simp) ?_
  apply AllReadyH.cons
  case ho => (simp only [List.getElem?_toArray, List.getElem?_cons_succ, List.getElem?_cons_zero]; rfl)
  case hs => exact AllReadyH.nil
  intro K hK
  go_simp
  go_at_call 29; refine (stamp_epoch _ _ (by omega) (by omega)).mono ?_; rintro e V' ⟨rfl, rfl⟩
  refine hK.out _ _ (by exact HS2.out _ KD) (fun hHeld => ?_)
  clear hK K
  try simp only [Act.put, List.setIfInBounds_toArray, List.set_cons_zero, List.set_cons_succ]
  refine wpAnyH_ready (rs := [22]) (by kernel_rfl) (by simp) ?_
  apply AllReadyH.cons
  case ho => (simp only [List.getElem?_toArray, List.getElem?_cons_succ, List.getElem?_cons_zero]; rfl)
  case hs => exact AllReadyH.nil
  intro K hK
  go_simp
  go_at_call 29; refine (stamp_epoch _ _ (by omega) (by omega)).mono ?_; rintro e V' ⟨rfl, rfl⟩
  refine hK.out _ _ (by exact HS2.out _ KD) (fun hHeld => ?_)
  clear hK K
  try simp only [Act.put, List.setIfInBounds_toArray, List.set_cons_zero, List.set_cons_succ]
  apply wpAnyH_take (i := 23)
  case hi => (simp only [List.getElem?_toArray, List.getElem?_cons_succ, List.getElem?_cons_zero]; rfl)
  case hs => kernel_rfl
  case hf => kernel_rfl
  case hr => kernel_rfl
  case hQ => exact fun _ _ _ h => h
  case hy => (refine Or.inl ⟨by rfl, ?_⟩; (intro w' hSw; (try dsimp only at hSw); go_simp) <;> with_reducible rfl)
  case hS => assumption
  try simp only [Act.put, List.setIfInBounds_toArray, List.set_cons_zero, List.set_cons_succ]
  apply wpAnyH_take (i := 24)
  case hi => (simp only [List.getElem?_toArray, List.getElem?_cons_succ, List.getElem?_cons_zero]; rfl)
  case hs => kernel_rfl
  case hf => kernel_rfl
  case hr => kernel_rfl
  case hQ => exact fun _ _ _ h => h
  case hy => (refine Or.inl ⟨by rfl, ?_⟩; (intro w' hSw; (try dsimp only at hSw); go_simp) <;> with_reducible rfl)
  case hS => assumption
  try simp only [Act.put, List.setIfInBounds_toArray, List.set_cons_zero, List.set_cons_succ]
  apply wpAnyH_take (i := 25)
  case hi => (simp only [List.getElem?_toArray, List.getElem?_cons_succ, List.getElem?_cons_zero]; rfl)
  case hs => kernel_rfl
  case hf => kernel_rfl
  case hr => kernel_rfl
  case hQ => exact fun _ _ _ h => h
  case hy => (refine Or.inl ⟨by rfl, ?_⟩; (intro w' hSw; (try dsimp only at hSw); go_simp) <;> with_reducible rfl)
  case hS => assumption
  try simp only [Act.put, List.setIfInBounds_toArray, List.set_cons_zero, List.set_cons_succ]
  refine wpAnyH_done (by kernel_rfl) ?_ _
  have HL2 := HS2.out _ KD
  clear hHeld
  obtain ⟨b0, b1, b2⟩ := HL2
  go_wp2_with fail
  refine (ep_clone (some ⟨b, o, none⟩) (t + 1) c L _ ((KB.trans KD).sl HS.out) hb).mono ?_
  rintro e V2 ⟨a2, c2, g2, rfl, hA2, K2, hg2⟩
  have hVs := KD.size
  have KD2 := KD.trans K2
  have HA2 := Lib.hid hA2
  have HL3 := HS2.out _ KD2
  clear b0 b1 b2 hA2
  obtain ⟨b0, b1, b2⟩ := HL3
  go_wp2_with fail
  go_quiet ((first | (go_at_call 28; exact Calls.quiet_of_same (unflip (stamp_off _ _ (by omega) (by omega)))) | (go_at_call 29; exact Calls.quiet_of_same (unflip (stamp_epoch _ _ (by omega) (by omega))))))
  generalize hV3 : World.drewN V2 _ = V3
  have K23 : Kept V2 V3 := hV3 ▸ (Kept.refl V2).dr ((Dr.refl V2).drewN _)
  have KD3 := KD2.trans K23
  have hV3s := K23.size
  have hV2s := K2.size
  have HA3 := Lib.hid (K23.only.app HA2.out (by simp))
  have HL4 := HS2.out _ KD3
  clear b0 b1 b2 hV3 HA2
  obtain ⟨b0, b1, b2⟩ := HL4
  have hR4 := KD3.only.heap HR.out (by simp)
  obtain ⟨r0, r1⟩ := two_cells hR4
  have f0 := one_free hR4 0
  have f1 := one_free hR4 1
  obtain ⟨d0, d1⟩ := two_cells (two_set hR4 (.slice a2 (t + 1) c2) (.int .i64 (E + 1)))
  obtain ⟨hS4, hg4⟩ := app_slk (k := .u64) (xs := L) HA3.out
  have hin : inB a2 [w.heap.size + 1] := by intro x hx hm; have hgx := hg4 x hx; simp at hm; have := hg2 _ hgx; omega
  have hfr : ∀ y, a2 = some y → w.heap.size ≤ y.block := by intro x hx; have hgx := hg4 x hx; have := hg2 _ hgx; omega
  have HS4 := Lib.hid hS4
  clear hS4 hR4
  go_wp2
  refine bodyPost_ret (v := .tuple #[.agg #[.slice a2 (t + 1) c2, .int .i64 (E + 1)], .bool true]) (by simp [results, Try.results25, go_sem, d0, d1]) rfl ⟨a2, t + 1, c2, rfl, (only_set2 V3 _ _ _).sl HS4.out hin, hfr, (KB.trans KD3).onl (only_set2 V3 _ _ _) (by intro i hi; simp at hi; omega)⟩
end Go.Proofs.Ytmkoabalakfehaa
