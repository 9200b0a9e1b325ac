/- What the law of chapter 8 begins with. -/
import Derived.Test.YtfblkdecbjplbaaEpOf2
import Derived.Test.YtfblkdecbjplbaaEpMeet
set_option linter.unusedVariables false
set_option linter.unusedSimpArgs false
namespace Go.Proofs.Ytfblkdecbjplbaa
open Go.RowKit
set_option maxHeartbeats 400000 in
theorem ep_at (e o v : Int) (w : World) (hv : e * 17592186044416 + o = v) (e0 : 0 ≤ e) (e1 : e < 524288) (o0 : 0 ≤ o) (o1 : o ≤ 17592186044415) :
    Calls Try.prog 8 #[.int .i64 e, .int .i64 o] w fun E w' => E = .returned (.int .u64 v) ∧ w = w' := by
  have HP := Lib.hid (stamp_pack e o w e0 e1 o0 o1)
  rw [hv] at HP
  clear hv
  go_enter Try.func8, Try.ntmps8
  go_wp2_with fail
  refine HP.out.mono ?_
  rintro E w' ⟨rfl, rfl⟩
  go_wp2
  go_ret
  exact ⟨rfl, rfl⟩
set_option maxRecDepth 100000 in
set_option maxHeartbeats 2000000 in
theorem awake8 (w : World) : Calls Try.prog 7 #[] w fun e w' => e = .returned (.bool true) ∧ Kept w w' := by
  have KB : Kept w (w.alloc (.cells #[.int .u64 17592186044416, .int .u64 17592186044417, .int .u64 35184372088834] 26)) := kept_al _ _
  have HL : Hid (Sl .u64 (w.alloc (.cells #[.int .u64 17592186044416, .int .u64 17592186044417, .int .u64 35184372088834] 26)) (some ⟨w.heap.size, 0, none⟩) 3 3 [17592186044416, 17592186044417, 35184372088834]) := sl_lit .u64 w 26 (0, 0) [17592186044416, 17592186044417, 35184372088834] 3 rfl (by unfold maxLen; omega)
  have HR : Hid (Rises [17592186044416, 17592186044417, 35184372088834]) := by
    intro i hi
    simp at hi
    have : i = 0 ∨ i = 1 := by omega
    rcases this with rfl | rfl <;> decide
  have HT : Hid (tabL [17592186044416, 17592186044417, 35184372088834] 3 = [17592186044416, 35184372088834]) := by unfold Hid; decide +kernel
  have HE : Hid (endOf [17592186044416, 17592186044417, 35184372088834] = 3) := by unfold Hid; decide +kernel
  have HG : Hid (decide (GoodT [17592186044416, 35184372088834] 3) = true) := by unfold Hid; decide +kernel
  have HW : Hid (IsW [17592186044416, 35184372088834]) := isW_of_mem (by decide)
  go_enter Try.func7, Try.ntmps7
  go_wp2_with fail
  refine (ep_at 1 0 17592186044416 _ (by omega) (by omega) (by omega) (by omega) (by omega)).mono ?_
  rintro e w' ⟨rfl, rfl⟩
  go_wp2_with fail
  refine (ep_at 1 1 17592186044417 _ (by omega) (by omega) (by omega) (by omega) (by omega)).mono ?_
  rintro e w' ⟨rfl, rfl⟩
  go_wp2_with fail
  refine (ep_at 2 2 35184372088834 _ (by omega) (by omega) (by omega) (by omega) (by omega)).mono ?_
  rintro e w' ⟨rfl, rfl⟩
  go_wp2_with fail
  refine (ep_of _ 3 3 _ _ HL.out (isW_of_mem (by decide)) HR.out (by decide) (by omega)).mono ?_
  rintro e V ⟨a', n', c', rfl, hS', K'⟩
  rw [HT.out] at hS'
  rw [HE.out]
  obtain rfl : 2 = n' := hS'.1
  have hcc := hS'.2.1
  have hcm := hS'.2.2.1
  unfold maxLen at hcm
  have KV := KB.trans K'
  have HS' := Lib.hid hS'
  obtain ⟨b, o, x, rfl, hx, hxv⟩ := hS'.at 0 (by omega)
  obtain ⟨b2, o2, y, hab, hy, hyv⟩ := hS'.at 1 (by omega)
  injection hab with hab
  injection hab with hab1 hab2
  subst hab1 hab2
  obtain rfl : x = 17592186044416 := hxv.out
  obtain rfl : y = 35184372088834 := hyv.out
  rw [Nat.add_zero] at hx
  clear hxv hyv hS' K' KB
  have KX := kept_al V (.cells #[.slice (some ⟨b, o, none⟩) 2 c', .int .i64 3] 29)
  have HC : Hid (∀ Z, Kept (V.alloc (.cells #[.slice (some ⟨b, o, none⟩) 2 c', .int .i64 3] 29)) Z → Z.cell? ⟨V.heap.size, 0, none⟩ = some (.slice (some ⟨b, o, none⟩) 2 c') ∧ Z.cell? ⟨V.heap.size, 1, none⟩ = some (.int .i64 3) ∧ Z.cell? ⟨b, o, none⟩ = some (.int .u64 17592186044416) ∧ Z.cell? ⟨b, o + 1, none⟩ = some (.int .u64 35184372088834)) := fun Z k => ⟨k.cel (two_cells (heap_alloc_new V _)).1, k.cel (two_cells (heap_alloc_new V _)).2, (KX.trans k).cel hx, (KX.trans k).cel hy⟩
  clear hx hy
  go_wp2_with fail
  generalize World.alloc V _ = X at *
  have KD : Kept X X.drew := (Kept.refl _).dr ⟨1, rfl⟩
  have tok : Hid True := trivial
  go_region_held3 (fun Z => Z.cell? ⟨V.heap.size, 0, none⟩ = some (.slice (some ⟨b, o, none⟩) 2 c') ∧ Z.cell? ⟨V.heap.size, 1, none⟩ = some (.int .i64 3) ∧ Z.cell? ⟨b, o, none⟩ = some (.int .u64 17592186044416) ∧ Z.cell? ⟨b, o + 1, none⟩ = some (.int .u64 35184372088834)) (first | exact HC.out _ KD) (first | (go_at_call 8; replace tok := tok; clear tok; refine (ep_at 1 0 17592186044416 _ (by omega) (by omega) (by omega) (by omega) (by omega)).mono ?_; rintro e w' ⟨rfl, rfl⟩) | (go_at_call 8; refine (ep_at 2 2 35184372088834 _ (by omega) (by omega) (by omega) (by omega) (by omega)).mono ?_; rintro e w' ⟨rfl, rfl⟩) | (go_at_call 11; refine (ep_good (some ⟨b, o, none⟩) 2 c' [17592186044416, 35184372088834] 3 _ ((KX.trans KD).sl HS'.out) HW.out).mono ?_; rintro e Z ⟨rfl, J⟩; rw [HG.out]; replace KD := KD.trans J; clear J))
  go_wp2
  go_ret
  exact ⟨rfl, (KV.trans KX).trans KD⟩
end Go.Proofs.Ytfblkdecbjplbaa
