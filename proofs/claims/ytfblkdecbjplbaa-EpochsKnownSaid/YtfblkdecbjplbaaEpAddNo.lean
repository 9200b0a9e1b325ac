/- Add: what it does not take. -/
import Derived.Test.YtfblkdecbjplbaaEpAdd
set_option linter.unusedVariables false
set_option linter.unusedSimpArgs false
namespace Go.Proofs.Ytfblkdecbjplbaa
open Go.RowKit
set_option maxRecDepth 100000 in
set_option maxHeartbeats 2000000 in
theorem ep_add_off (a : Option Addr) (c : Nat) (n : Nat) (L : List Int) (E s : Int) (w : World) (hS : Sl .u64 w a n c L) (hW : IsW L) (s0 : 0 ≤ s) (s1 : s ≤ 18446744073709551615) (hg : GoodT L E) (ho : ofI s ≠ E) :
    Calls Try.prog 15 #[.agg #[.slice a n c, .int .i64 E], .int .u64 s] w fun e w' => e = .returned (.tuple #[.agg #[.slice none 0 0, .int .i64 0], .bool false]) ∧ Kept w w' := by
  have HS := Lib.hid hS
  have KB : Kept w ((w.alloc (.cells #[.slice a n c, .int .i64 E] 29)).alloc (.cells #[.slice none 0 0, .int .i64 0] 29)) := (((Only.refl [] w).alloc _).alloc _).kept
  have hR := two_new' w (.cells #[.slice a n c, .int .i64 E] 29) (.cells #[.slice none 0 0, .int .i64 0] 29)
  have hB := (kept_al (w.alloc (.cells #[.slice a n c, .int .i64 E] 29)) (.cells #[.slice none 0 0, .int .i64 0] 29)).only.heap (heap_alloc_new w (.cells #[.slice a n c, .int .i64 E] 29)) (by simp)
  have GD := Lib.hid (fun V (k : Kept w V) => ep_good a n c L E V (k.sl hS) hW)
  have HGD : Hid (decide (GoodT L E) = true) := decide_eq_true hg
  have hso : (ofI s != E) = true := by simp [ho]
  obtain ⟨b0, b1⟩ := two_cells hB
  have HB := Lib.hid hB
  have HR := Lib.hid hR
  have hsz : w.heap.size + 1 < ((w.alloc (.cells #[.slice a n c, .int .i64 E] 29)).alloc (.cells #[.slice none 0 0, .int .i64 0] 29)).heap.size := by simp
  clear hS hR hW hg
  go_enter Try.func15, Try.ntmps15
  go_wp2_with fail
  clear b0 b1 hB
  generalize World.alloc (World.alloc w _) _ = W at *
  have HS2 : Hid (∀ V, Kept W V → V.cell? ⟨w.heap.size, 0, none⟩ = some (.slice a n c) ∧ V.cell? ⟨w.heap.size, 1, none⟩ = some (.int .i64 E)) := fun V k => ⟨k.cel (two_cells HB.out).1, k.cel (two_cells HB.out).2⟩
  have KD : Kept W W.drew := (Kept.refl _).dr ⟨1, rfl⟩
  refine wp_region_held_drew (S := fun w' => w'.cell? ⟨w.heap.size, 0, none⟩ = some (.slice a n c) ∧ w'.cell? ⟨w.heap.size, 1, none⟩ = some (.int .i64 E)) (by kernel_rfl) (by exact HS2.out _ KD) (fun hHeld => ?_)
  apply wpAnyH_take (i := 0)
  case hi => (simp only [List.getElem?_toArray, List.getElem?_cons_succ, List.getElem?_cons_zero]; rfl)
  case hs => kernel_rfl
  case hf => kernel_rfl
  case hr => kernel_rfl
  case hQ => exact fun _ _ _ h => h
  case hy => (refine Or.inl ⟨by rfl, ?_⟩; (intro w' hSw; (try dsimp only at hSw); go_simp) <;> with_reducible rfl)
  case hS => assumption
  try simp only [Act.put, List.setIfInBounds_toArray, List.set_cons_zero, List.set_cons_succ]
  refine wpAnyH_ready (rs := [1]) (by kernel_rfl) (by simp) ?_
  apply AllReadyH.cons
  case ho => (simp only [List.getElem?_toArray, List.getElem?_cons_succ, List.getElem?_cons_zero]; rfl)
  case hs => exact AllReadyH.nil
  intro K hK
  go_simp
  go_at_call 11; refine (GD.out _ (KB.trans KD)).mono ?_; rintro e V ⟨rfl, J⟩; rw [HGD.out]; replace KD := KD.trans J; clear J
  refine hK.out _ _ (by exact HS2.out _ KD) (fun hHeld => ?_)
  clear hK K
  try simp only [Act.put, List.setIfInBounds_toArray, List.set_cons_zero, List.set_cons_succ]
  apply wpAnyH_take (i := 2)
  case hi => (simp only [List.getElem?_toArray, List.getElem?_cons_succ, List.getElem?_cons_zero]; rfl)
  case hs => kernel_rfl
  case hf => kernel_rfl
  case hr => kernel_rfl
  case hQ => exact fun _ _ _ h => h
  case hy => (refine Or.inl ⟨by rfl, ?_⟩; (intro w' hSw; (try dsimp only at hSw); go_simp) <;> with_reducible rfl)
  case hS => assumption
  try simp only [Act.put, List.setIfInBounds_toArray, List.set_cons_zero, List.set_cons_succ]
  apply wpAnyH_take (i := 3)
  case hi => (simp only [List.getElem?_toArray, List.getElem?_cons_succ, List.getElem?_cons_zero]; rfl)
  case hs => kernel_rfl
  case hf => kernel_rfl
  case hr => kernel_rfl
  case hQ => exact fun _ _ _ h => h
  case hy => (refine Or.inl ⟨by rfl, ?_⟩; (intro w' hSw; (try dsimp only at hSw); go_simp) <;> with_reducible rfl)
  case hS => assumption
  try simp only [Act.put, List.setIfInBounds_toArray, List.set_cons_zero, List.set_cons_succ]
  apply wpAnyH_take (i := 4)
  case hi => (simp only [List.getElem?_toArray, List.getElem?_cons_succ, List.getElem?_cons_zero]; rfl)
  case hs => kernel_rfl
  case hf => kernel_rfl
  case hr => kernel_rfl
  case hQ => exact fun _ _ _ h => h
  case hy => (refine Or.inl ⟨by rfl, ?_⟩; (intro w' hSw; (try dsimp only at hSw); go_simp) <;> with_reducible rfl)
  case hS => assumption
  try simp only [Act.put, List.setIfInBounds_toArray, List.set_cons_zero, List.set_cons_succ]
  apply wpAnyH_take (i := 6)
  case hi => (simp only [List.getElem?_toArray, List.getElem?_cons_succ, List.getElem?_cons_zero]; rfl)
  case hs => kernel_rfl
  case hf => kernel_rfl
  case hr => kernel_rfl
  case hQ => exact fun _ _ _ h => h
  case hy => (refine Or.inl ⟨by rfl, ?_⟩; (intro w' hSw; (try dsimp only at hSw); go_simp) <;> with_reducible rfl)
  case hS => assumption
  try simp only [Act.put, List.setIfInBounds_toArray, List.set_cons_zero, List.set_cons_succ]
  apply wpAnyH_take (i := 7)
  case hi => (simp only [List.getElem?_toArray, List.getElem?_cons_succ, List.getElem?_cons_zero]; rfl)
  case hs => kernel_rfl
  case hf => kernel_rfl
  case hr => kernel_rfl
  case hQ => exact fun _ _ _ h => h
  case hy => (refine Or.inl ⟨by rfl, ?_⟩; (intro w' hSw; (try dsimp only at hSw); go_simp) <;> with_reducible rfl)
  case hS => assumption
  try simp only [Act.put, List.setIfInBounds_toArray, List.set_cons_zero, List.set_cons_succ]
  refine wpAnyH_ready (rs := [5]) (by kernel_rfl) (by simp) ?_
  apply AllReadyH.cons
  case ho => (simp only [List.getElem?_toArray, List.getElem?_cons_succ, List.getElem?_cons_zero]; rfl)
  case hs => exact AllReadyH.nil
  intro K hK
  go_simp
  go_at_call 17; refine (stamp_off _ _ (by omega) (by omega)).mono ?_; rintro e V' ⟨rfl, rfl⟩
  refine hK.out _ _ (by exact HS2.out _ KD) (fun hHeld => ?_)
  clear hK K
  try simp only [Act.put, List.setIfInBounds_toArray, List.set_cons_zero, List.set_cons_succ]
  apply wpAnyH_take (i := 8)
  case hi => (simp only [List.getElem?_toArray, List.getElem?_cons_succ, List.getElem?_cons_zero]; rfl)
  case hs => kernel_rfl
  case hf => kernel_rfl
  case hr => kernel_rfl
  case hQ => exact fun _ _ _ h => h
  case hy => (refine Or.inl ⟨by rfl, ?_⟩; (intro w' hSw; (try dsimp only at hSw); go_simp) <;> with_reducible rfl)
  case hS => assumption
  try simp only [Act.put, List.setIfInBounds_toArray, List.set_cons_zero, List.set_cons_succ]
  apply wpAnyH_take (i := 9)
  case hi => (simp only [List.getElem?_toArray, List.getElem?_cons_succ, List.getElem?_cons_zero]; rfl)
  case hs => kernel_rfl
  case hf => kernel_rfl
  case hr => kernel_rfl
  case hQ => exact fun _ _ _ h => h
  case hy => (refine Or.inl ⟨by rfl, ?_⟩; (intro w' hSw; (try dsimp only at hSw); go_simp) <;> with_reducible rfl)
  case hS => assumption
  try simp only [Act.put, List.setIfInBounds_toArray, List.set_cons_zero, List.set_cons_succ]
  apply wpAnyH_take (i := 10)
  case hi => (simp only [List.getElem?_toArray, List.getElem?_cons_succ, List.getElem?_cons_zero]; rfl)
  case hs => kernel_rfl
  case hf => kernel_rfl
  case hr => kernel_rfl
  case hQ => exact fun _ _ _ h => h
  case hy => (refine Or.inl ⟨by rfl, ?_⟩; (intro w' hSw; (try dsimp only at hSw); go_simp) <;> with_reducible rfl)
  case hS => assumption
  try simp only [Act.put, List.setIfInBounds_toArray, List.set_cons_zero, List.set_cons_succ]
  apply wpAnyH_take (i := 11)
  case hi => (simp only [List.getElem?_toArray, List.getElem?_cons_succ, List.getElem?_cons_zero]; rfl)
  case hs => kernel_rfl
  case hf => kernel_rfl
  case hr => kernel_rfl
  case hQ => exact fun _ _ _ h => h
  case hy => exact Or.inr ⟨by rfl, rfl⟩
  case hS => assumption
  try simp only [Act.put, List.setIfInBounds_toArray, List.set_cons_zero, List.set_cons_succ]
  apply wpAnyH_take (i := 12)
  case hi => (simp only [List.getElem?_toArray, List.getElem?_cons_succ, List.getElem?_cons_zero]; rfl)
  case hs => kernel_rfl
  case hf => kernel_rfl
  case hr => kernel_rfl
  case hQ => exact fun _ _ _ h => h
  case hy => exact Or.inr ⟨by rfl, rfl⟩
  case hS => assumption
  try simp only [Act.put, List.setIfInBounds_toArray, List.set_cons_zero, List.set_cons_succ]
  apply wpAnyH_take (i := 13)
  case hi => (simp only [List.getElem?_toArray, List.getElem?_cons_succ, List.getElem?_cons_zero]; rfl)
  case hs => kernel_rfl
  case hf => kernel_rfl
  case hr => kernel_rfl
  case hQ => exact fun _ _ _ h => h
  case hy => exact Or.inr ⟨by rfl, rfl⟩
  case hS => assumption
  try simp only [Act.put, List.setIfInBounds_toArray, List.set_cons_zero, List.set_cons_succ]
  apply wpAnyH_take (i := 14)
  case hi => (simp only [List.getElem?_toArray, List.getElem?_cons_succ, List.getElem?_cons_zero]; rfl)
  case hs => kernel_rfl
  case hf => kernel_rfl
  case hr => kernel_rfl
  case hQ => exact fun _ _ _ h => h
  case hy => exact Or.inr ⟨by rfl, rfl⟩
  case hS => assumption
  try simp only [Act.put, List.setIfInBounds_toArray, List.set_cons_zero, List.set_cons_succ]
  apply wpAnyH_take (i := 15)
  case hi => (simp only [List.getElem?_toArray, List.getElem?_cons_succ, List.getElem?_cons_zero]; rfl)
  case hs => kernel_rfl
  case hf => kernel_rfl
  case hr => kernel_rfl
  case hQ => exact fun _ _ _ h => h
  case hy => exact Or.inr ⟨by rfl, rfl⟩
  case hS => assumption
  try simp only [Act.put, List.setIfInBounds_toArray, List.set_cons_zero, List.set_cons_succ]
  apply wpAnyH_take (i := 16)
  case hi => (simp only [List.getElem?_toArray, List.getElem?_cons_succ, List.getElem?_cons_zero]; rfl)
  case hs => kernel_rfl
  case hf => kernel_rfl
  case hr => kernel_rfl
  case hQ => exact fun _ _ _ h => h
  case hy => exact Or.inr ⟨by rfl, rfl⟩
  case hS => assumption
  try simp only [Act.put, List.setIfInBounds_toArray, List.set_cons_zero, List.set_cons_succ]
  apply wpAnyH_take (i := 17)
  case hi => (simp only [List.getElem?_toArray, List.getElem?_cons_succ, List.getElem?_cons_zero]; rfl)
  case hs => kernel_rfl
  case hf => kernel_rfl
  case hr => kernel_rfl
  case hQ => exact fun _ _ _ h => h
  case hy => exact Or.inr ⟨by rfl, rfl⟩
  case hS => assumption
  try simp only [Act.put, List.setIfInBounds_toArray, List.set_cons_zero, List.set_cons_succ]
  apply wpAnyH_take (i := 18)
  case hi => (simp only [List.getElem?_toArray, List.getElem?_cons_succ, List.getElem?_cons_zero]; rfl)
  case hs => kernel_rfl
  case hf => kernel_rfl
  case hr => kernel_rfl
  case hQ => exact fun _ _ _ h => h
  case hy => exact Or.inr ⟨by rfl, rfl⟩
  case hS => assumption
  try simp only [Act.put, List.setIfInBounds_toArray, List.set_cons_zero, List.set_cons_succ]
  apply wpAnyH_take (i := 19)
  case hi => (simp only [List.getElem?_toArray, List.getElem?_cons_succ, List.getElem?_cons_zero]; rfl)
  case hs => kernel_rfl
  case hf => kernel_rfl
  case hr => kernel_rfl
  case hQ => exact fun _ _ _ h => h
  case hy => exact Or.inr ⟨by rfl, rfl⟩
  case hS => assumption
  try simp only [Act.put, List.setIfInBounds_toArray, List.set_cons_zero, List.set_cons_succ]
  apply wpAnyH_take (i := 20)
  case hi => (simp only [List.getElem?_toArray, List.getElem?_cons_succ, List.getElem?_cons_zero]; rfl)
  case hs => kernel_rfl
  case hf => kernel_rfl
  case hr => kernel_rfl
  case hQ => exact fun _ _ _ h => h
  case hy => exact Or.inr ⟨by rfl, rfl⟩
  case hS => assumption
  try simp only [Act.put, List.setIfInBounds_toArray, List.set_cons_zero, List.set_cons_succ]
  apply wpAnyH_take (i := 21)
  case hi => (simp only [List.getElem?_toArray, List.getElem?_cons_succ, List.getElem?_cons_zero]; rfl)
  case hs => kernel_rfl
  case hf => kernel_rfl
  case hr => kernel_rfl
  case hQ => exact fun _ _ _ h => h
  case hy => exact Or.inr ⟨by rfl, rfl⟩
  case hS => assumption
  try simp only [Act.put, List.setIfInBounds_toArray, List.set_cons_zero, List.set_cons_succ]
  apply wpAnyH_take (i := 22)
  case hi => (simp only [List.getElem?_toArray, List.getElem?_cons_succ, List.getElem?_cons_zero]; rfl)
  case hs => kernel_rfl
  case hf => kernel_rfl
  case hr => kernel_rfl
  case hQ => exact fun _ _ _ h => h
  case hy => exact Or.inr ⟨by rfl, rfl⟩
  case hS => assumption
  try simp only [Act.put, List.setIfInBounds_toArray, List.set_cons_zero, List.set_cons_succ]
  apply wpAnyH_take (i := 23)
  case hi => (simp only [List.getElem?_toArray, List.getElem?_cons_succ, List.getElem?_cons_zero]; rfl)
  case hs => kernel_rfl
  case hf => kernel_rfl
  case hr => kernel_rfl
  case hQ => exact fun _ _ _ h => h
  case hy => exact Or.inr ⟨by rfl, rfl⟩
  case hS => assumption
  try simp only [Act.put, List.setIfInBounds_toArray, List.set_cons_zero, List.set_cons_succ]
  apply wpAnyH_take (i := 24)
  case hi => (simp only [List.getElem?_toArray, List.getElem?_cons_succ, List.getElem?_cons_zero]; rfl)
  case hs => kernel_rfl
  case hf => kernel_rfl
  case hr => kernel_rfl
  case hQ => exact fun _ _ _ h => h
  case hy => exact Or.inr ⟨by rfl, rfl⟩
  case hS => assumption
  try simp only [Act.put, List.setIfInBounds_toArray, List.set_cons_zero, List.set_cons_succ]
  apply wpAnyH_take (i := 25)
  case hi => (simp only [List.getElem?_toArray, List.getElem?_cons_succ, List.getElem?_cons_zero]; rfl)
  case hs => kernel_rfl
  case hf => kernel_rfl
  case hr => kernel_rfl
  case hQ => exact fun _ _ _ h => h
  case hy => (refine Or.inl ⟨by rfl, ?_⟩; (intro w' hSw; (try dsimp only at hSw); go_simp) <;> with_reducible rfl)
  case hS => assumption
  try simp only [Act.put, List.setIfInBounds_toArray, List.set_cons_zero, List.set_cons_succ]
  refine wpAnyH_done (by kernel_rfl) ?_ _
  clear hHeld
  have hR3 := KD.only.heap HR.out (by simp)
  obtain ⟨r0, r1⟩ := two_cells hR3
  have f0 := one_free hR3 0
  have f1 := one_free hR3 1
  obtain ⟨d3, d4⟩ := two_cells (two_set hR3 (.slice none 0 0) (.int .i64 0))
  clear hR3
  go_wp2
  refine bodyPost_ret (v := .tuple #[.agg #[.slice none 0 0, .int .i64 0], .bool false]) (by simp [results, Try.results15, go_sem, d3, d4]) rfl ⟨rfl, (KB.trans KD).onl (only_set2 _ (w.heap.size + 1) _ _) (by intro i hi; have := List.mem_singleton.1 hi; omega)⟩
set_option maxRecDepth 100000 in
set_option maxHeartbeats 2000000 in
theorem ep_add_low (a : Option Addr) (c : Nat) (t : Nat) (L : List Int) (E s : Int) (w : World) (hS : Sl .u64 w a (t + 1) c L) (hW : IsW L) (s0 : 0 ≤ s) (s1 : s ≤ 18446744073709551615) (hg : GoodT L E) (ho : ofI s = E) (hlt : epI s < epI (L.getD t 0)) (hb : t + 1 ≤ 1000) :
    Calls Try.prog 15 #[.agg #[.slice a (t + 1) c, .int .i64 E], .int .u64 s] w fun e w' => e = .returned (.tuple #[.agg #[.slice none 0 0, .int .i64 0], .bool false]) ∧ Kept w w' := by
  obtain ⟨b, o, x, rfl, hx, hxv⟩ := hS.at t (by omega)
  have hxb := hW t
  rw [← hxv.out] at hxb
  obtain ⟨x0, x1⟩ := hxb
  have hnc := hS.2.1
  have hcm := hS.2.2.1
  unfold maxLen at hcm
  have hz0 : decide (0 < (t : Int) + 1) = true := decide_eq_true (by omega)
  have hi : (t : Int) + 1 - 1 = t := by omega
  have ht1 : (t : Int) < (t : Int) + 1 := by omega
  have hw : IntKind.i64.wrap (t : Int) = t := by rw [IntKind.wrap_i64]; omega
  rw [← hxv.out] at hlt
  have hq1 : decide (epI s < epI x) = true := decide_eq_true hlt
  have HS := Lib.hid hS
  have KB : Kept w ((w.alloc (.cells #[.slice (some ⟨b, o, none⟩) (t + 1) c, .int .i64 E] 29)).alloc (.cells #[.slice none 0 0, .int .i64 0] 29)) := (((Only.refl [] w).alloc _).alloc _).kept
  have hR := two_new' w (.cells #[.slice (some ⟨b, o, none⟩) (t + 1) c, .int .i64 E] 29) (.cells #[.slice none 0 0, .int .i64 0] 29)
  have hB := (kept_al (w.alloc (.cells #[.slice (some ⟨b, o, none⟩) (t + 1) c, .int .i64 E] 29)) (.cells #[.slice none 0 0, .int .i64 0] 29)).only.heap (heap_alloc_new w (.cells #[.slice (some ⟨b, o, none⟩) (t + 1) c, .int .i64 E] 29)) (by simp)
  have GD := Lib.hid (fun V (k : Kept w V) => ep_good (some ⟨b, o, none⟩) (t + 1) c L E V (k.sl hS) hW)
  have HGD : Hid (decide (GoodT L E) = true) := decide_eq_true hg
  have hso : (ofI s != E) = false := by simp [ho]
  obtain ⟨b0, b1⟩ := two_cells hB
  have HB := Lib.hid hB
  have HR := Lib.hid hR
  have hsz : w.heap.size + 1 < ((w.alloc (.cells #[.slice (some ⟨b, o, none⟩) (t + 1) c, .int .i64 E] 29)).alloc (.cells #[.slice none 0 0, .int .i64 0] 29)).heap.size := by simp
  have HX := Lib.hid (KB.cel hx)
  clear hS hR hW hg hx hxv
  go_enter Try.func15, Try.ntmps15
  go_wp2_with fail
  clear b0 b1 hB
  generalize World.alloc (World.alloc w _) _ = W at *
  have HS2 : Hid (∀ V, Kept W V → V.cell? ⟨w.heap.size, 0, none⟩ = some (.slice (some ⟨b, o, none⟩) (t + 1) c) ∧ V.cell? ⟨w.heap.size, 1, none⟩ = some (.int .i64 E) ∧ V.cell? ⟨b, o + t, none⟩ = some (.int .u64 x)) := fun V k => ⟨k.cel (two_cells HB.out).1, k.cel (two_cells HB.out).2, k.cel HX.out⟩
  have KD : Kept W W.drew := (Kept.refl _).dr ⟨1, rfl⟩
  refine wp_region_held_drew (S := fun w' => w'.cell? ⟨w.heap.size, 0, none⟩ = some (.slice (some ⟨b, o, none⟩) (t + 1) c) ∧ w'.cell? ⟨w.heap.size, 1, none⟩ = some (.int .i64 E) ∧ w'.cell? ⟨b, o + t, none⟩ = some (.int .u64 x)) (by kernel_rfl) (by exact HS2.out _ KD) (fun hHeld => ?_)
  apply wpAnyH_take (i := 0)
  case hi => (simp only [List.getElem?_toArray, List.getElem?_cons_succ, List.getElem?_cons_zero]; rfl)
  case hs => kernel_rfl
  case hf => kernel_rfl
  case hr => kernel_rfl
  case hQ => exact fun _ _ _ h => h
  case hy => (refine Or.inl ⟨by rfl, ?_⟩; (intro w' hSw; (try dsimp only at hSw); go_simp) <;> with_reducible rfl)
  case hS => assumption
  try simp only [Act.put, List.setIfInBounds_toArray, List.set_cons_zero, List.set_cons_succ]
  refine wpAnyH_ready (rs := [1]) (by kernel_rfl) (by simp) ?_
  apply AllReadyH.cons
  case ho => (simp only [List.getElem?_toArray, List.getElem?_cons_succ, List.getElem?_cons_zero]; rfl)
  case hs => exact AllReadyH.nil
  intro K hK
  go_simp
  go_at_call 11; refine (GD.out _ (KB.trans KD)).mono ?_; rintro e V ⟨rfl, J⟩; rw [HGD.out]; replace KD := KD.trans J; clear J
  refine hK.out _ _ (by exact HS2.out _ KD) (fun hHeld => ?_)
  clear hK K
  try simp only [Act.put, List.setIfInBounds_toArray, List.set_cons_zero, List.set_cons_succ]
  apply wpAnyH_take (i := 2)
  case hi => (simp only [List.getElem?_toArray, List.getElem?_cons_succ, List.getElem?_cons_zero]; rfl)
  case hs => kernel_rfl
  case hf => kernel_rfl
  case hr => kernel_rfl
  case hQ => exact fun _ _ _ h => h
  case hy => (refine Or.inl ⟨by rfl, ?_⟩; (intro w' hSw; (try dsimp only at hSw); go_simp) <;> with_reducible rfl)
  case hS => assumption
  try simp only [Act.put, List.setIfInBounds_toArray, List.set_cons_zero, List.set_cons_succ]
  apply wpAnyH_take (i := 3)
  case hi => (simp only [List.getElem?_toArray, List.getElem?_cons_succ, List.getElem?_cons_zero]; rfl)
  case hs => kernel_rfl
  case hf => kernel_rfl
  case hr => kernel_rfl
  case hQ => exact fun _ _ _ h => h
  case hy => (refine Or.inl ⟨by rfl, ?_⟩; (intro w' hSw; (try dsimp only at hSw); go_simp) <;> with_reducible rfl)
  case hS => assumption
  try simp only [Act.put, List.setIfInBounds_toArray, List.set_cons_zero, List.set_cons_succ]
  apply wpAnyH_take (i := 4)
  case hi => (simp only [List.getElem?_toArray, List.getElem?_cons_succ, List.getElem?_cons_zero]; rfl)
  case hs => kernel_rfl
  case hf => kernel_rfl
  case hr => kernel_rfl
  case hQ => exact fun _ _ _ h => h
  case hy => (refine Or.inl ⟨by rfl, ?_⟩; (intro w' hSw; (try dsimp only at hSw); go_simp) <;> with_reducible rfl)
  case hS => assumption
  try simp only [Act.put, List.setIfInBounds_toArray, List.set_cons_zero, List.set_cons_succ]
  apply wpAnyH_take (i := 6)
  case hi => (simp only [List.getElem?_toArray, List.getElem?_cons_succ, List.getElem?_cons_zero]; rfl)
  case hs => kernel_rfl
  case hf => kernel_rfl
  case hr => kernel_rfl
  case hQ => exact fun _ _ _ h => h
  case hy => (refine Or.inl ⟨by rfl, ?_⟩; (intro w' hSw; (try dsimp only at hSw); go_simp) <;> with_reducible rfl)
  case hS => assumption
  try simp only [Act.put, List.setIfInBounds_toArray, List.set_cons_zero, List.set_cons_succ]
  apply wpAnyH_take (i := 7)
  case hi => (simp only [List.getElem?_toArray, List.getElem?_cons_succ, List.getElem?_cons_zero]; rfl)
  case hs => kernel_rfl
  case hf => kernel_rfl
  case hr => kernel_rfl
  case hQ => exact fun _ _ _ h => h
  case hy => (refine Or.inl ⟨by rfl, ?_⟩; (intro w' hSw; (try dsimp only at hSw); go_simp) <;> with_reducible rfl)
  case hS => assumption
  try simp only [Act.put, List.setIfInBounds_toArray, List.set_cons_zero, List.set_cons_succ]
  refine wpAnyH_ready (rs := [5]) (by kernel_rfl) (by simp) ?_
  apply AllReadyH.cons
  case ho => (simp only [List.getElem?_toArray, List.getElem?_cons_succ, List.getElem?_cons_zero]; rfl)
  case hs => exact AllReadyH.nil
  intro K hK
  go_simp
  go_at_call 17; refine (stamp_off _ _ (by omega) (by omega)).mono ?_; rintro e V' ⟨rfl, rfl⟩
  refine hK.out _ _ (by exact HS2.out _ KD) (fun hHeld => ?_)
  clear hK K
  try simp only [Act.put, List.setIfInBounds_toArray, List.set_cons_zero, List.set_cons_succ]
  apply wpAnyH_take (i := 8)
  case hi => (simp only [List.getElem?_toArray, List.getElem?_cons_succ, List.getElem?_cons_zero]; rfl)
  case hs => kernel_rfl
  case hf => kernel_rfl
  case hr => kernel_rfl
  case hQ => exact fun _ _ _ h => h
  case hy => (refine Or.inl ⟨by rfl, ?_⟩; (intro w' hSw; (try dsimp only at hSw); go_simp) <;> with_reducible rfl)
  case hS => assumption
  try simp only [Act.put, List.setIfInBounds_toArray, List.set_cons_zero, List.set_cons_succ]
  apply wpAnyH_take (i := 9)
  case hi => (simp only [List.getElem?_toArray, List.getElem?_cons_succ, List.getElem?_cons_zero]; rfl)
  case hs => kernel_rfl
  case hf => kernel_rfl
  case hr => kernel_rfl
  case hQ => exact fun _ _ _ h => h
  case hy => (refine Or.inl ⟨by rfl, ?_⟩; (intro w' hSw; (try dsimp only at hSw); go_simp) <;> with_reducible rfl)
  case hS => assumption
  try simp only [Act.put, List.setIfInBounds_toArray, List.set_cons_zero, List.set_cons_succ]
  apply wpAnyH_take (i := 10)
  case hi => (simp only [List.getElem?_toArray, List.getElem?_cons_succ, List.getElem?_cons_zero]; rfl)
  case hs => kernel_rfl
  case hf => kernel_rfl
  case hr => kernel_rfl
  case hQ => exact fun _ _ _ h => h
  case hy => (refine Or.inl ⟨by rfl, ?_⟩; (intro w' hSw; (try dsimp only at hSw); go_simp) <;> with_reducible rfl)
  case hS => assumption
  try simp only [Act.put, List.setIfInBounds_toArray, List.set_cons_zero, List.set_cons_succ]
  apply wpAnyH_take (i := 11)
  case hi => (simp only [List.getElem?_toArray, List.getElem?_cons_succ, List.getElem?_cons_zero]; rfl)
  case hs => kernel_rfl
  case hf => kernel_rfl
  case hr => kernel_rfl
  case hQ => exact fun _ _ _ h => h
  case hy => (refine Or.inl ⟨by rfl, ?_⟩; (intro w' hSw; (try dsimp only at hSw); go_simp) <;> with_reducible rfl)
  case hS => assumption
  try simp only [Act.put, List.setIfInBounds_toArray, List.set_cons_zero, List.set_cons_succ]
  apply wpAnyH_take (i := 12)
  case hi => (simp only [List.getElem?_toArray, List.getElem?_cons_succ, List.getElem?_cons_zero]; rfl)
  case hs => kernel_rfl
  case hf => kernel_rfl
  case hr => kernel_rfl
  case hQ => exact fun _ _ _ h => h
  case hy => (refine Or.inl ⟨by rfl, ?_⟩; (intro w' hSw; (try dsimp only at hSw); go_simp) <;> with_reducible rfl)
  case hS => assumption
  try simp only [Act.put, List.setIfInBounds_toArray, List.set_cons_zero, List.set_cons_succ]
  apply wpAnyH_take (i := 13)
  case hi => (simp only [List.getElem?_toArray, List.getElem?_cons_succ, List.getElem?_cons_zero]; rfl)
  case hs => kernel_rfl
  case hf => kernel_rfl
  case hr => kernel_rfl
  case hQ => exact fun _ _ _ h => h
  case hy => (refine Or.inl ⟨by rfl, ?_⟩; (intro w' hSw; (try dsimp only at hSw); go_simp) <;> with_reducible rfl)
  case hS => assumption
  try simp only [Act.put, List.setIfInBounds_toArray, List.set_cons_zero, List.set_cons_succ]
  apply wpAnyH_take (i := 14)
  case hi => (simp only [List.getElem?_toArray, List.getElem?_cons_succ, List.getElem?_cons_zero]; rfl)
  case hs => kernel_rfl
  case hf => kernel_rfl
  case hr => kernel_rfl
  case hQ => exact fun _ _ _ h => h
  case hy => (refine Or.inl ⟨by rfl, ?_⟩; (intro w' hSw; (try dsimp only at hSw); go_simp) <;> with_reducible rfl)
  case hS => assumption
  try simp only [Act.put, List.setIfInBounds_toArray, List.set_cons_zero, List.set_cons_succ]
  apply wpAnyH_take (i := 16)
  case hi => (simp only [List.getElem?_toArray, List.getElem?_cons_succ, List.getElem?_cons_zero]; rfl)
  case hs => kernel_rfl
  case hf => kernel_rfl
  case hr => kernel_rfl
  case hQ => exact fun _ _ _ h => h
  case hy => (refine Or.inl ⟨by rfl, ?_⟩; (intro w' hSw; (try dsimp only at hSw); go_simp) <;> with_reducible rfl)
  case hS => assumption
  try simp only [Act.put, List.setIfInBounds_toArray, List.set_cons_zero, List.set_cons_succ]
  apply wpAnyH_take (i := 17)
  case hi => (simp only [List.getElem?_toArray, List.getElem?_cons_succ, List.getElem?_cons_zero]; rfl)
  case hs => kernel_rfl
  case hf => kernel_rfl
  case hr => kernel_rfl
  case hQ => exact fun _ _ _ h => h
  case hy => (refine Or.inl ⟨by rfl, ?_⟩; (intro w' hSw; (try dsimp only at hSw); go_simp) <;> with_reducible rfl)
  case hS => assumption
  try simp only [Act.put, List.setIfInBounds_toArray, List.set_cons_zero, List.set_cons_succ]
  apply wpAnyH_take (i := 18)
  case hi => (simp only [List.getElem?_toArray, List.getElem?_cons_succ, List.getElem?_cons_zero]; rfl)
  case hs => kernel_rfl
  case hf => kernel_rfl
  case hr => kernel_rfl
  case hQ => exact fun _ _ _ h => h
  case hy => (refine Or.inl ⟨by rfl, ?_⟩; (intro w' hSw; (try dsimp only at hSw); go_simp) <;> with_reducible rfl)
  case hS => assumption
  try simp only [Act.put, List.setIfInBounds_toArray, List.set_cons_zero, List.set_cons_succ]
  apply wpAnyH_take (i := 19)
  case hi => (simp only [List.getElem?_toArray, List.getElem?_cons_succ, List.getElem?_cons_zero]; rfl)
  case hs => kernel_rfl
  case hf => kernel_rfl
  case hr => kernel_rfl
  case hQ => exact fun _ _ _ h => h
  case hy => (refine Or.inl ⟨by rfl, ?_⟩; (intro w' hSw; (try dsimp only at hSw); go_simp) <;> with_reducible rfl)
  case hS => assumption
  try simp only [Act.put, List.setIfInBounds_toArray, List.set_cons_zero, List.set_cons_succ]
  apply wpAnyH_take (i := 20)
  case hi => (simp only [List.getElem?_toArray, List.getElem?_cons_succ, List.getElem?_cons_zero]; rfl)
  case hs => kernel_rfl
  case hf => kernel_rfl
  case hr => kernel_rfl
  case hQ => exact fun _ _ _ h => h
  case hy => (refine Or.inl ⟨by rfl, ?_⟩; (intro w' hSw; (try dsimp only at hSw); go_simp) <;> with_reducible rfl)
  case hS => assumption
  try simp only [Act.put, List.setIfInBounds_toArray, List.set_cons_zero, List.set_cons_succ]
  apply wpAnyH_take (i := 21)
  case hi => (simp only [List.getElem?_toArray, List.getElem?_cons_succ, List.getElem?_cons_zero]; rfl)
  case hs => kernel_rfl
  case hf => kernel_rfl
  case hr => kernel_rfl
  case hQ => exact fun _ _ _ h => h
  case hy => (refine Or.inl ⟨by rfl, ?_⟩; (intro w' hSw; (try dsimp only at hSw); go_simp) <;> with_reducible rfl)
  case hS => assumption
  try simp only [Act.put, List.setIfInBounds_toArray, List.set_cons_zero, List.set_cons_succ]
  refine wpAnyH_ready (rs := [15]) (by kernel_rfl) (by simp) ?_
  apply AllReadyH.cons
  case ho => (simp only [List.getElem?_toArray, List.getElem?_cons_succ, List.getElem?_cons_zero]; rfl)
  case hs => exact AllReadyH.nil
  intro K hK
  go_simp
  go_at_call 14; refine (stamp_epoch _ _ (by omega) (by omega)).mono ?_; rintro e V' ⟨rfl, rfl⟩
  refine hK.out _ _ (by exact HS2.out _ KD) (fun hHeld => ?_)
  clear hK K
  try simp only [Act.put, List.setIfInBounds_toArray, List.set_cons_zero, List.set_cons_succ]
  refine wpAnyH_ready (rs := [22]) (by kernel_rfl) (by simp) ?_
  apply AllReadyH.cons
  case ho => (simp only [List.getElem?_toArray, List.getElem?_cons_succ, List.getElem?_cons_zero]; rfl)
  case hs => exact AllReadyH.nil
  intro K hK
  go_simp
  go_at_call 14; refine (stamp_epoch _ _ (by omega) (by omega)).mono ?_; rintro e V' ⟨rfl, rfl⟩
  refine hK.out _ _ (by exact HS2.out _ KD) (fun hHeld => ?_)
  clear hK K
  try simp only [Act.put, List.setIfInBounds_toArray, List.set_cons_zero, List.set_cons_succ]
  apply wpAnyH_take (i := 23)
  case hi => (simp only [List.getElem?_toArray, List.getElem?_cons_succ, List.getElem?_cons_zero]; rfl)
  case hs => kernel_rfl
  case hf => kernel_rfl
  case hr => kernel_rfl
  case hQ => exact fun _ _ _ h => h
  case hy => (refine Or.inl ⟨by rfl, ?_⟩; (intro w' hSw; (try dsimp only at hSw); go_simp) <;> with_reducible rfl)
  case hS => assumption
  try simp only [Act.put, List.setIfInBounds_toArray, List.set_cons_zero, List.set_cons_succ]
  apply wpAnyH_take (i := 24)
  case hi => (simp only [List.getElem?_toArray, List.getElem?_cons_succ, List.getElem?_cons_zero]; rfl)
  case hs => kernel_rfl
  case hf => kernel_rfl
  case hr => kernel_rfl
  case hQ => exact fun _ _ _ h => h
  case hy => (refine Or.inl ⟨by rfl, ?_⟩; (intro w' hSw; (try dsimp only at hSw); go_simp) <;> with_reducible rfl)
  case hS => assumption
  try simp only [Act.put, List.setIfInBounds_toArray, List.set_cons_zero, List.set_cons_succ]
  apply wpAnyH_take (i := 25)
  case hi => (simp only [List.getElem?_toArray, List.getElem?_cons_succ, List.getElem?_cons_zero]; rfl)
  case hs => kernel_rfl
  case hf => kernel_rfl
  case hr => kernel_rfl
  case hQ => exact fun _ _ _ h => h
  case hy => (refine Or.inl ⟨by rfl, ?_⟩; (intro w' hSw; (try dsimp only at hSw); go_simp) <;> with_reducible rfl)
  case hS => assumption
  try simp only [Act.put, List.setIfInBounds_toArray, List.set_cons_zero, List.set_cons_succ]
  refine wpAnyH_done (by kernel_rfl) ?_ _
  clear hHeld
  have hR3 := KD.only.heap HR.out (by simp)
  obtain ⟨r0, r1⟩ := two_cells hR3
  have f0 := one_free hR3 0
  have f1 := one_free hR3 1
  obtain ⟨d3, d4⟩ := two_cells (two_set hR3 (.slice none 0 0) (.int .i64 0))
  clear hR3
  go_wp2
  refine bodyPost_ret (v := .tuple #[.agg #[.slice none 0 0, .int .i64 0], .bool false]) (by simp [results, Try.results15, go_sem, d3, d4]) rfl ⟨rfl, (KB.trans KD).onl (only_set2 _ (w.heap.size + 1) _ _) (by intro i hi; have := List.mem_singleton.1 hi; omega)⟩
end Go.Proofs.Ytfblkdecbjplbaa
