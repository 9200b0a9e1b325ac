/- Cut: the walk. -/
import Derived.Test.YtmkoabalakfehaaEpCut
import Derived.Deep.RegionHeld3
set_option linter.unusedVariables false
set_option linter.unusedSimpArgs false
namespace Go.Proofs.Ytmkoabalakfehaa
open Go.RowKit
theorem three_new (w : World) (a b c : Obj) : (((w.alloc a).alloc b).alloc c).heap[w.heap.size + 2]? = some c := by
  have := heap_alloc_new ((w.alloc a).alloc b) c
  simpa using this
set_option maxRecDepth 100000 in
set_option maxHeartbeats 2000000 in
theorem ep_cut_yes (a : Option Addr) (n c k : Nat) (L : List Int) (E off : Int) (w : World) (hS : Sl .u64 w a n c L) (hW : IsW L) (hg : GoodT L E) (hf : firstI L E ≤ off) (he : off ≤ E) (hk : k ≤ n) (h1 : ∀ j, j < k → ofI (L.getD j 0) < off) (h2 : ∀ j, k ≤ j → j < n → off ≤ ofI (L.getD j 0)) (hb : n ≤ 1000) :
    Calls Try.prog 26 #[.agg #[.slice a n c, .int .i64 E], .int .i64 off] w fun e w' => ∃ a' c', e = .returned (.tuple #[.agg #[.slice a' k c', .int .i64 off], .bool true]) ∧ Sl .u64 w' a' k c' (L.take k) ∧ Kept w w' := by
  have d1 : decide (off < firstI L E) = false := decide_eq_false (by omega)
  have d2 : decide (E < off) = false := decide_eq_false (by omega)
  have H1 := Lib.hid h1
  have H2 := Lib.hid h2
  clear h1 h2
  have HS := Lib.hid hS
  have HW := Lib.hid hW
  have KB : Kept w (((w.alloc (.cells #[.slice a n c, .int .i64 E] 24)).alloc (.cells #[.int .i64 off] 2)).alloc (.cells #[.slice none 0 0, .int .i64 0] 24)) := ((((Only.refl [] w).alloc _).alloc _).alloc _).kept
  have hR := three_new w (.cells #[.slice a n c, .int .i64 E] 24) (.cells #[.int .i64 off] 2) (.cells #[.slice none 0 0, .int .i64 0] 24)
  have hO := (kept_al ((w.alloc (.cells #[.slice a n c, .int .i64 E] 24)).alloc (.cells #[.int .i64 off] 2)) (.cells #[.slice none 0 0, .int .i64 0] 24)).only.heap (two_new' w (.cells #[.slice a n c, .int .i64 E] 24) (.cells #[.int .i64 off] 2)) (by simp)
  have hB := ((kept_al (w.alloc (.cells #[.slice a n c, .int .i64 E] 24)) (.cells #[.int .i64 off] 2)).trans (kept_al ((w.alloc (.cells #[.slice a n c, .int .i64 E] 24)).alloc (.cells #[.int .i64 off] 2)) (.cells #[.slice none 0 0, .int .i64 0] 24))).only.heap (heap_alloc_new w (.cells #[.slice a n c, .int .i64 E] 24)) (by simp)
  have HB := Lib.hid hB
  have HO := Lib.hid hO
  have HR := Lib.hid hR
  have hsz : w.heap.size + 2 < (((w.alloc (.cells #[.slice a n c, .int .i64 E] 24)).alloc (.cells #[.int .i64 off] 2)).alloc (.cells #[.slice none 0 0, .int .i64 0] 24)).heap.size := by simp
  have HGD : Hid (decide (GoodT L E) = true) := decide_eq_true hg
  clear hS hW hR hO hB hg
  go_enter Try.func26, Try.ntmps26
  go_wp2_with fail
  generalize World.alloc (World.alloc (World.alloc w _) _) _ = W at *
  have HC : Hid (∀ V, Kept W V → V.cell? ⟨w.heap.size, 0, none⟩ = some (.slice a n c) ∧ V.cell? ⟨w.heap.size, 1, none⟩ = some (.int .i64 E) ∧ V.cell? ⟨w.heap.size + 1, 0, none⟩ = some (.int .i64 off)) := fun V k => ⟨k.cel (two_cells HB.out).1, k.cel (two_cells HB.out).2, k.cel (one_cell HO.out)⟩
  have KD : Kept W W.drew := (Kept.refl _).dr ⟨1, rfl⟩
  go_region_held3 (fun w' => w'.cell? ⟨w.heap.size, 0, none⟩ = some (.slice a n c) ∧ w'.cell? ⟨w.heap.size, 1, none⟩ = some (.int .i64 E) ∧ w'.cell? ⟨w.heap.size + 1, 0, none⟩ = some (.int .i64 off)) (first | exact HC.out _ KD) (first | (go_at_call 8; refine (ep_good a n c L E _ ((KB.trans KD).sl HS.out) HW.out).mono ?_; rintro e V ⟨rfl, J⟩; rw [HGD.out]; replace KD := KD.trans J; clear J) | (go_at_call 39; refine (tbl_first a n c L E _ ((KB.trans KD).sl HS.out) HW.out).mono ?_; rintro e V ⟨rfl, J⟩; replace KD := KD.trans J; clear J))
  have CV := HC.out _ KD
  have hVs := KD.size
  obtain ⟨p0, p1, q0⟩ := CV
  go_wp2_with fail
  clear p0 p1 q0
  refine (ep_clone a n c L _ ((KB.trans KD).sl HS.out) hb).mono ?_
  rintro e V2 ⟨a2, c2, g2, rfl, hA2, K2, hg2⟩
  have KD2 := KD.trans K2
  have HD := Lib.hid (ep_del a2 n c2 k g2 L off (w.heap.size + 1) V2 hA2 HW.out (HC.out _ KD2).2.2 hk H1.out H2.out)
  obtain ⟨-, hga⟩ := app_slk (k := .u64) (xs := L) hA2
  have hg2W : ∀ i, i ∈ g2.toList → W.heap.size ≤ i := by
    intro i hi
    simp at hi
    have := hg2 i hi
    omega
  have hin : inB a2 [w.heap.size + 2] := by
    intro x hx hm
    have h3 := hga x hx
    have h4 := hg2 _ h3
    simp at hm
    omega
  clear hA2
  go_wp2_with fail
  refine HD.out.mono ?_
  rintro e V3 ⟨rfl, hS3, o3⟩
  have K3 := KD2.onl o3 hg2W
  have HS3 := Lib.hid hS3
  have q0 := (HC.out _ K3).2.2
  have hR3 := K3.only.heap HR.out (by simp)
  obtain ⟨r0, r1⟩ := two_cells hR3
  have f0 := one_free hR3 0
  have f1 := one_free hR3 1
  obtain ⟨d3, d4⟩ := two_cells (two_set hR3 (.slice a2 k c2) (.int .i64 off))
  clear hS3 hR3 o3
  go_wp2
  refine bodyPost_ret (v := .tuple #[.agg #[.slice a2 k c2, .int .i64 off], .bool true]) (by simp [results, Try.results26, go_sem, d3, d4]) rfl ⟨a2, c2, rfl, (only_set2 V3 _ _ _).sl HS3.out hin, (KB.trans K3).onl (only_set2 V3 (w.heap.size + 2) _ _) (by intro i hi; have := List.mem_singleton.1 hi; omega)⟩
set_option maxRecDepth 100000 in
set_option maxHeartbeats 2000000 in
theorem ep_cut_above (a : Option Addr) (n c : Nat) (L : List Int) (E off : Int) (w : World) (hS : Sl .u64 w a n c L) (hW : IsW L) (hg : GoodT L E) (hf : firstI L E ≤ off) (he : E < off) :
    Calls Try.prog 26 #[.agg #[.slice a n c, .int .i64 E], .int .i64 off] w fun e w' => e = .returned (.tuple #[.agg #[.slice none 0 0, .int .i64 0], .bool false]) ∧ Kept w w' := by
  have d1 : decide (off < firstI L E) = false := decide_eq_false (by omega)
  have d2 : decide (E < off) = true := decide_eq_true he
  have HS := Lib.hid hS
  have HW := Lib.hid hW
  have KB : Kept w (((w.alloc (.cells #[.slice a n c, .int .i64 E] 24)).alloc (.cells #[.int .i64 off] 2)).alloc (.cells #[.slice none 0 0, .int .i64 0] 24)) := ((((Only.refl [] w).alloc _).alloc _).alloc _).kept
  have hR := three_new w (.cells #[.slice a n c, .int .i64 E] 24) (.cells #[.int .i64 off] 2) (.cells #[.slice none 0 0, .int .i64 0] 24)
  have hO := (kept_al ((w.alloc (.cells #[.slice a n c, .int .i64 E] 24)).alloc (.cells #[.int .i64 off] 2)) (.cells #[.slice none 0 0, .int .i64 0] 24)).only.heap (two_new' w (.cells #[.slice a n c, .int .i64 E] 24) (.cells #[.int .i64 off] 2)) (by simp)
  have hB := ((kept_al (w.alloc (.cells #[.slice a n c, .int .i64 E] 24)) (.cells #[.int .i64 off] 2)).trans (kept_al ((w.alloc (.cells #[.slice a n c, .int .i64 E] 24)).alloc (.cells #[.int .i64 off] 2)) (.cells #[.slice none 0 0, .int .i64 0] 24))).only.heap (heap_alloc_new w (.cells #[.slice a n c, .int .i64 E] 24)) (by simp)
  have HB := Lib.hid hB
  have HO := Lib.hid hO
  have HR := Lib.hid hR
  have hsz : w.heap.size + 2 < (((w.alloc (.cells #[.slice a n c, .int .i64 E] 24)).alloc (.cells #[.int .i64 off] 2)).alloc (.cells #[.slice none 0 0, .int .i64 0] 24)).heap.size := by simp
  have HGD : Hid (decide (GoodT L E) = true) := decide_eq_true hg
  clear hS hW hR hO hB hg
  go_enter Try.func26, Try.ntmps26
  go_wp2_with fail
  generalize World.alloc (World.alloc (World.alloc w _) _) _ = W at *
  have HC : Hid (∀ V, Kept W V → V.cell? ⟨w.heap.size, 0, none⟩ = some (.slice a n c) ∧ V.cell? ⟨w.heap.size, 1, none⟩ = some (.int .i64 E) ∧ V.cell? ⟨w.heap.size + 1, 0, none⟩ = some (.int .i64 off)) := fun V k => ⟨k.cel (two_cells HB.out).1, k.cel (two_cells HB.out).2, k.cel (one_cell HO.out)⟩
  have KD : Kept W W.drew := (Kept.refl _).dr ⟨1, rfl⟩
  go_region_held3 (fun w' => w'.cell? ⟨w.heap.size, 0, none⟩ = some (.slice a n c) ∧ w'.cell? ⟨w.heap.size, 1, none⟩ = some (.int .i64 E) ∧ w'.cell? ⟨w.heap.size + 1, 0, none⟩ = some (.int .i64 off)) (first | exact HC.out _ KD) (first | (go_at_call 8; refine (ep_good a n c L E _ ((KB.trans KD).sl HS.out) HW.out).mono ?_; rintro e V ⟨rfl, J⟩; rw [HGD.out]; replace KD := KD.trans J; clear J) | (go_at_call 39; refine (tbl_first a n c L E _ ((KB.trans KD).sl HS.out) HW.out).mono ?_; rintro e V ⟨rfl, J⟩; replace KD := KD.trans J; clear J))
  have CV := HC.out _ KD
  have hR3 := KD.only.heap HR.out (by simp)
  obtain ⟨r0, r1⟩ := two_cells hR3
  have f0 := one_free hR3 0
  have f1 := one_free hR3 1
  obtain ⟨d3, d4⟩ := two_cells (two_set hR3 (.slice none 0 0) (.int .i64 0))
  clear hR3
  go_wp2
  refine bodyPost_ret (v := .tuple #[.agg #[.slice none 0 0, .int .i64 0], .bool false]) (by simp [results, Try.results26, go_sem, d3, d4]) rfl ⟨rfl, (KB.trans KD).onl (only_set2 _ (w.heap.size + 2) _ _) (by intro i hi; have := List.mem_singleton.1 hi; omega)⟩
set_option maxRecDepth 100000 in
set_option maxHeartbeats 2000000 in
theorem ep_cut_below (a : Option Addr) (n c : Nat) (L : List Int) (E off : Int) (w : World) (hS : Sl .u64 w a n c L) (hW : IsW L) (hg : GoodT L E) (hf : off < firstI L E) :
    Calls Try.prog 26 #[.agg #[.slice a n c, .int .i64 E], .int .i64 off] w fun e w' => e = .returned (.tuple #[.agg #[.slice none 0 0, .int .i64 0], .bool false]) ∧ Kept w w' := by
  have d1 : decide (off < firstI L E) = true := decide_eq_true hf
  have HS := Lib.hid hS
  have HW := Lib.hid hW
  have KB : Kept w (((w.alloc (.cells #[.slice a n c, .int .i64 E] 24)).alloc (.cells #[.int .i64 off] 2)).alloc (.cells #[.slice none 0 0, .int .i64 0] 24)) := ((((Only.refl [] w).alloc _).alloc _).alloc _).kept
  have hR := three_new w (.cells #[.slice a n c, .int .i64 E] 24) (.cells #[.int .i64 off] 2) (.cells #[.slice none 0 0, .int .i64 0] 24)
  have hO := (kept_al ((w.alloc (.cells #[.slice a n c, .int .i64 E] 24)).alloc (.cells #[.int .i64 off] 2)) (.cells #[.slice none 0 0, .int .i64 0] 24)).only.heap (two_new' w (.cells #[.slice a n c, .int .i64 E] 24) (.cells #[.int .i64 off] 2)) (by simp)
  have hB := ((kept_al (w.alloc (.cells #[.slice a n c, .int .i64 E] 24)) (.cells #[.int .i64 off] 2)).trans (kept_al ((w.alloc (.cells #[.slice a n c, .int .i64 E] 24)).alloc (.cells #[.int .i64 off] 2)) (.cells #[.slice none 0 0, .int .i64 0] 24))).only.heap (heap_alloc_new w (.cells #[.slice a n c, .int .i64 E] 24)) (by simp)
  have HB := Lib.hid hB
  have HO := Lib.hid hO
  have HR := Lib.hid hR
  have hsz : w.heap.size + 2 < (((w.alloc (.cells #[.slice a n c, .int .i64 E] 24)).alloc (.cells #[.int .i64 off] 2)).alloc (.cells #[.slice none 0 0, .int .i64 0] 24)).heap.size := by simp
  have HGD : Hid (decide (GoodT L E) = true) := decide_eq_true hg
  clear hS hW hR hO hB hg
  go_enter Try.func26, Try.ntmps26
  go_wp2_with fail
  generalize World.alloc (World.alloc (World.alloc w _) _) _ = W at *
  have HC : Hid (∀ V, Kept W V → V.cell? ⟨w.heap.size, 0, none⟩ = some (.slice a n c) ∧ V.cell? ⟨w.heap.size, 1, none⟩ = some (.int .i64 E) ∧ V.cell? ⟨w.heap.size + 1, 0, none⟩ = some (.int .i64 off)) := fun V k => ⟨k.cel (two_cells HB.out).1, k.cel (two_cells HB.out).2, k.cel (one_cell HO.out)⟩
  have KD : Kept W W.drew := (Kept.refl _).dr ⟨1, rfl⟩
  refine wp_region_held_drew (S := fun w' => w'.cell? ⟨w.heap.size, 0, none⟩ = some (.slice a n c) ∧ w'.cell? ⟨w.heap.size, 1, none⟩ = some (.int .i64 E) ∧ w'.cell? ⟨w.heap.size + 1, 0, none⟩ = some (.int .i64 off)) (by kernel_rfl) (by exact HC.out _ KD) (fun hHeld => ?_)
  apply wpAnyH_take (i := 0)
  case hi => (simp only [List.getElem?_toArray, List.getElem?_cons_succ, List.getElem?_cons_zero]; rfl)
  case hs => kernel_rfl
  case hf => kernel_rfl
  case hr => kernel_rfl
  case hQ => exact fun _ _ _ h => h
  case hy => (refine Or.inl ⟨by rfl, ?_⟩; (intro w' hSw; (try dsimp only at hSw); go_simp) <;> with_reducible rfl)
  case hS => assumption
  try simp only [Act.put, List.setIfInBounds_toArray, List.set_cons_zero, List.set_cons_succ]
  refine wpAnyH_ready (rs := [1]) (by kernel_rfl) (by simp) ?_
  apply AllReadyH.cons
  case ho => (simp only [List.getElem?_toArray, List.getElem?_cons_succ, List.getElem?_cons_zero]; rfl)
  case hs => exact AllReadyH.nil
  intro K hK
  go_simp
  go_at_call 8; refine (ep_good a n c L E _ ((KB.trans KD).sl HS.out) HW.out).mono ?_; rintro e V ⟨rfl, J⟩; rw [HGD.out]; replace KD := KD.trans J; clear J
  refine hK.out _ _ (by exact HC.out _ KD) (fun hHeld => ?_)
  clear hK K
  try simp only [Act.put, List.setIfInBounds_toArray, List.set_cons_zero, List.set_cons_succ]
  apply wpAnyH_take (i := 2)
  case hi => (simp only [List.getElem?_toArray, List.getElem?_cons_succ, List.getElem?_cons_zero]; rfl)
  case hs => kernel_rfl
  case hf => kernel_rfl
  case hr => kernel_rfl
  case hQ => exact fun _ _ _ h => h
  case hy => (refine Or.inl ⟨by rfl, ?_⟩; (intro w' hSw; (try dsimp only at hSw); go_simp) <;> with_reducible rfl)
  case hS => assumption
  try simp only [Act.put, List.setIfInBounds_toArray, List.set_cons_zero, List.set_cons_succ]
  apply wpAnyH_take (i := 3)
  case hi => (simp only [List.getElem?_toArray, List.getElem?_cons_succ, List.getElem?_cons_zero]; rfl)
  case hs => kernel_rfl
  case hf => kernel_rfl
  case hr => kernel_rfl
  case hQ => exact fun _ _ _ h => h
  case hy => (refine Or.inl ⟨by rfl, ?_⟩; (intro w' hSw; (try dsimp only at hSw); go_simp) <;> with_reducible rfl)
  case hS => assumption
  try simp only [Act.put, List.setIfInBounds_toArray, List.set_cons_zero, List.set_cons_succ]
  apply wpAnyH_take (i := 4)
  case hi => (simp only [List.getElem?_toArray, List.getElem?_cons_succ, List.getElem?_cons_zero]; rfl)
  case hs => kernel_rfl
  case hf => kernel_rfl
  case hr => kernel_rfl
  case hQ => exact fun _ _ _ h => h
  case hy => (refine Or.inl ⟨by rfl, ?_⟩; (intro w' hSw; (try dsimp only at hSw); go_simp) <;> with_reducible rfl)
  case hS => assumption
  try simp only [Act.put, List.setIfInBounds_toArray, List.set_cons_zero, List.set_cons_succ]
  apply wpAnyH_take (i := 5)
  case hi => (simp only [List.getElem?_toArray, List.getElem?_cons_succ, List.getElem?_cons_zero]; rfl)
  case hs => kernel_rfl
  case hf => kernel_rfl
  case hr => kernel_rfl
  case hQ => exact fun _ _ _ h => h
  case hy => (refine Or.inl ⟨by rfl, ?_⟩; (intro w' hSw; (try dsimp only at hSw); go_simp) <;> with_reducible rfl)
  case hS => assumption
  try simp only [Act.put, List.setIfInBounds_toArray, List.set_cons_zero, List.set_cons_succ]
  refine wpAnyH_ready (rs := [6]) (by kernel_rfl) (by simp) ?_
  apply AllReadyH.cons
  case ho => (simp only [List.getElem?_toArray, List.getElem?_cons_succ, List.getElem?_cons_zero]; rfl)
  case hs => exact AllReadyH.nil
  intro K hK
  go_simp
  go_at_call 39; refine (tbl_first a n c L E _ ((KB.trans KD).sl HS.out) HW.out).mono ?_; rintro e V ⟨rfl, J⟩; replace KD := KD.trans J; clear J
  refine hK.out _ _ (by exact HC.out _ KD) (fun hHeld => ?_)
  clear hK K
  try simp only [Act.put, List.setIfInBounds_toArray, List.set_cons_zero, List.set_cons_succ]
  apply wpAnyH_take (i := 7)
  case hi => (simp only [List.getElem?_toArray, List.getElem?_cons_succ, List.getElem?_cons_zero]; rfl)
  case hs => kernel_rfl
  case hf => kernel_rfl
  case hr => kernel_rfl
  case hQ => exact fun _ _ _ h => h
  case hy => (refine Or.inl ⟨by rfl, ?_⟩; (intro w' hSw; (try dsimp only at hSw); go_simp) <;> with_reducible rfl)
  case hS => assumption
  try simp only [Act.put, List.setIfInBounds_toArray, List.set_cons_zero, List.set_cons_succ]
  apply wpAnyH_take (i := 8)
  case hi => (simp only [List.getElem?_toArray, List.getElem?_cons_succ, List.getElem?_cons_zero]; rfl)
  case hs => kernel_rfl
  case hf => kernel_rfl
  case hr => kernel_rfl
  case hQ => exact fun _ _ _ h => h
  case hy => (refine Or.inl ⟨by rfl, ?_⟩; (intro w' hSw; (try dsimp only at hSw); go_simp) <;> with_reducible rfl)
  case hS => assumption
  try simp only [Act.put, List.setIfInBounds_toArray, List.set_cons_zero, List.set_cons_succ]
  apply wpAnyH_take (i := 9)
  case hi => (simp only [List.getElem?_toArray, List.getElem?_cons_succ, List.getElem?_cons_zero]; rfl)
  case hs => kernel_rfl
  case hf => kernel_rfl
  case hr => kernel_rfl
  case hQ => exact fun _ _ _ h => h
  case hy => (refine Or.inl ⟨by rfl, ?_⟩; (intro w' hSw; (try dsimp only at hSw); go_simp) <;> with_reducible rfl)
  case hS => assumption
  try simp only [Act.put, List.setIfInBounds_toArray, List.set_cons_zero, List.set_cons_succ]
  apply wpAnyH_take (i := 10)
  case hi => (simp only [List.getElem?_toArray, List.getElem?_cons_succ, List.getElem?_cons_zero]; rfl)
  case hs => kernel_rfl
  case hf => kernel_rfl
  case hr => kernel_rfl
  case hQ => exact fun _ _ _ h => h
  case hy => exact Or.inr ⟨by rfl, rfl⟩
  case hS => assumption
  try simp only [Act.put, List.setIfInBounds_toArray, List.set_cons_zero, List.set_cons_succ]
  apply wpAnyH_take (i := 11)
  case hi => (simp only [List.getElem?_toArray, List.getElem?_cons_succ, List.getElem?_cons_zero]; rfl)
  case hs => kernel_rfl
  case hf => kernel_rfl
  case hr => kernel_rfl
  case hQ => exact fun _ _ _ h => h
  case hy => exact Or.inr ⟨by rfl, rfl⟩
  case hS => assumption
  try simp only [Act.put, List.setIfInBounds_toArray, List.set_cons_zero, List.set_cons_succ]
  apply wpAnyH_take (i := 12)
  case hi => (simp only [List.getElem?_toArray, List.getElem?_cons_succ, List.getElem?_cons_zero]; rfl)
  case hs => kernel_rfl
  case hf => kernel_rfl
  case hr => kernel_rfl
  case hQ => exact fun _ _ _ h => h
  case hy => exact Or.inr ⟨by rfl, rfl⟩
  case hS => assumption
  try simp only [Act.put, List.setIfInBounds_toArray, List.set_cons_zero, List.set_cons_succ]
  apply wpAnyH_take (i := 13)
  case hi => (simp only [List.getElem?_toArray, List.getElem?_cons_succ, List.getElem?_cons_zero]; rfl)
  case hs => kernel_rfl
  case hf => kernel_rfl
  case hr => kernel_rfl
  case hQ => exact fun _ _ _ h => h
  case hy => exact Or.inr ⟨by rfl, rfl⟩
  case hS => assumption
  try simp only [Act.put, List.setIfInBounds_toArray, List.set_cons_zero, List.set_cons_succ]
  apply wpAnyH_take (i := 14)
  case hi => (simp only [List.getElem?_toArray, List.getElem?_cons_succ, List.getElem?_cons_zero]; rfl)
  case hs => kernel_rfl
  case hf => kernel_rfl
  case hr => kernel_rfl
  case hQ => exact fun _ _ _ h => h
  case hy => (refine Or.inl ⟨by rfl, ?_⟩; (intro w' hSw; (try dsimp only at hSw); go_simp) <;> with_reducible rfl)
  case hS => assumption
  try simp only [Act.put, List.setIfInBounds_toArray, List.set_cons_zero, List.set_cons_succ]
  refine wpAnyH_done (by kernel_rfl) ?_ _
  clear hHeld
  have CV := HC.out _ KD
  have hR3 := KD.only.heap HR.out (by simp)
  obtain ⟨r0, r1⟩ := two_cells hR3
  have f0 := one_free hR3 0
  have f1 := one_free hR3 1
  obtain ⟨d3, d4⟩ := two_cells (two_set hR3 (.slice none 0 0) (.int .i64 0))
  clear hR3
  go_wp2
  refine bodyPost_ret (v := .tuple #[.agg #[.slice none 0 0, .int .i64 0], .bool false]) (by simp [results, Try.results26, go_sem, d3, d4]) rfl ⟨rfl, (KB.trans KD).onl (only_set2 _ (w.heap.size + 2) _ _) (by intro i hi; have := List.mem_singleton.1 hi; omega)⟩
end Go.Proofs.Ytmkoabalakfehaa
