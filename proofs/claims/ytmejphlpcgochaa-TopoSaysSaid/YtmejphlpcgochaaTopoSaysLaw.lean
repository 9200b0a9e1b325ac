/- Orders: every result is the document's (written by gen_tosays.py). -/
import Derived.Test.YtmejphlpcgochaaToAw
import Derived.Test.YtmejphlpcgochaaTo8
import Derived.Test.YtmejphlpcgochaaTo9
import Derived.Test.YtmejphlpcgochaaGrOwn
import Derived.Test.YtmejphlpcgochaaGrTy
set_option linter.unusedVariables false
set_option linter.unusedSimpArgs false
namespace Go.Proofs.Ytmejphlpcgochaa
open Go.RowKit
set_option maxRecDepth 100000 in
set_option maxHeartbeats 16000000 in
theorem topoSays_law (v0 v1 v2 v3 : Value) (x0 : TyGraph.den) (x1 : (Ty.sl (.int .i64)).den) (x2 x3 : Int) (w : World) (w0 : RepV w TyGraph v0 x0) (w1 : RepV w (.sl (.int .i64)) v1 x1) (w2 : RepV w (.int .i64) v2 x2) (w3 : RepV w (.int .i64) v3 x3) :
    Calls Try.prog 5 #[v0, v1, v2, v3] w fun e w' => e = .returned (.bool true) ∧ Below w.heap.size w w' := by
  obtain ⟨N, s, m, c, E, rfl, hE, hNb⟩ := repV_graph w0
  obtain ⟨la, ln, lc, rfl, hs1⟩ := repV_sl w1
  obtain ⟨rfl, hw2⟩ := repV_int w2
  obtain ⟨rfl, hw3⟩ := repV_int w3
  have hL := (slT_int hs1).1
  have hl := hE.1
  have hnc := hE.2.1
  have hlnc := hL.2.1
  have hB0 := heap_alloc_new w (.cells #[.int .i64 N, .slice s m c] 24)
  have K0 := kept_al w (.cells #[.int .i64 N, .slice s m c] 24)
  have HE := Lib.hid hE
  have HL := Lib.hid hL
  have HAw := Lib.hid (awake11 (w.alloc (.cells #[.int .i64 N, .slice s m c] 24)))
  have HK0 := Lib.hid K0
  have HB := Lib.hid hB0
  clear w0 w1 w2 w3 hw2 hw3 hE K0 hB0 hs1 hL
  obtain ⟨l, hl0⟩ : ∃ l : List Int, x1 = l := ⟨x1, rfl⟩
  rw [hl0] at HL
  clear hl0
  go_enter Try.func5, Try.ntmps5
  go_wp2_with fail
  generalize World.alloc w _ = X0 at *
  generalize hbx : w.heap.size = bx at *
  refine HAw.out.mono ?_
  rintro E1 V1 ⟨rfl, hK1⟩
  have HB1 := Lib.hid (hK1.only.heap HB.out (by simp))
  have HK1 := Lib.hid (HK0.out.trans hK1)
  have b0 := at_cell HB1.out 0 _ rfl
  have b1 := at_cell HB1.out 1 _ rfl
  clear hK1 HAw
  by_cases hm : m ≤ 60
  · have g1 : ¬ (60 : Int) < m := by omega
    by_cases hln : ln ≤ 30
    · have g2 : ¬ (30 : Int) < ln := by omega
      have HOw := Lib.hid (law_own N (HE.out.kept HK1.out) (by omega))
      go_wp2_with fail
      refine HOw.out.mono ?_
      rintro E2 V2 ⟨oa, oc, rfl, hSo, hK2⟩
      have KB := kept_al V2 (.cells #[.int .i64 N, .slice oa m oc] 41)
      have HBO := heap_alloc_new V2 (.cells #[.int .i64 N, .slice oa m oc] 41)
      have HSO := Lib.hid (hSo.kept KB)
      have HKA := Lib.hid ((HK1.out.trans hK2).trans KB)
      have HBG := Lib.hid ((hK2.trans KB).only.heap HB1.out (by simp))
      obtain ⟨bo, hbo⟩ : ∃ bo, V2.heap.size = bo := ⟨_, rfl⟩
      rw [hbo] at HBO
      have HBO := Lib.hid HBO
      have HS : Hid (∀ Z, Kept (V2.alloc (.cells #[.int .i64 N, .slice oa m oc] 41)) Z → (Z.cell? ⟨bx, 0, none⟩ = some (.int .i64 N) ∧ Z.cell? ⟨bx, 1, none⟩ = some (.slice s m c)) ∧ Z.cell? ⟨bo, 0, none⟩ = some (.int .i64 N) ∧ Z.cell? ⟨bo, 1, none⟩ = some (.slice oa m oc)) := fun Z k => ⟨⟨k.cel (at_cell HBG.out 0 _ rfl), k.cel (at_cell HBG.out 1 _ rfl)⟩, k.cel (at_cell HBO.out 0 _ rfl), k.cel (at_cell HBO.out 1 _ rfl)⟩
      have hz0 := at_cell (heap_alloc_new V2 (.cells #[.int .i64 0, .slice none 0 0] 41)) 0 _ rfl
      obtain ⟨⟨b0, b1⟩, c0, c1⟩ := HS.out _ (Kept.refl _)
      clear hSo hK2 KB HOw
      go_upto_region 6 with fail
      clear hz0
      try rw [hbo]
      generalize World.alloc V2 _ = Z0 at *
      have hk0 := Kept.refl Z0
      obtain ⟨⟨b0, b1⟩, c0, c1⟩ := HS.out _ hk0
      have HC := Lib.hid (t_order N (HE.out.kept (HKA.out.trans hk0)))
      go_wp2_with fail
      refine HC.out.mono ?_
      rintro E10 Z1 ⟨oa1, ok1, oc1, rfl, hS, hK, hn1, -⟩
      have HS1 := Lib.hid hS
      replace hk0 := hk0.trans hK
      clear hK HC b0 b1 c0 c1 hS
      obtain ⟨⟨b0, b1⟩, c0, c1⟩ := HS.out _ hk0
      have HC := Lib.hid (ro_order N (HSO.out.kept hk0) (by omega))
      go_wp2_with fail
      refine HC.out.mono ?_
      rintro E11 Z2 ⟨oa2, ok2, oc2, rfl, hS, hK, hn2, -⟩
      replace HS1 := Lib.hid (hK.sl HS1.out)
      have HS2 := Lib.hid hS
      replace hk0 := hk0.trans hK
      clear hK HC b0 b1 c0 c1 hS
      obtain ⟨⟨b0, b1⟩, c0, c1⟩ := HS.out _ hk0
      have HC := Lib.hid (t_levels N (HE.out.kept (HKA.out.trans hk0)))
      go_wp2_with fail
      refine HC.out.mono ?_
      rintro E12 Z3 ⟨oa3, ok3, oc3, rfl, hS, hK, hn3, -⟩
      replace HS1 := Lib.hid (hK.sl HS1.out)
      replace HS2 := Lib.hid (hK.sl HS2.out)
      have HS3 := Lib.hid hS
      replace hk0 := hk0.trans hK
      clear hK HC b0 b1 c0 c1 hS
      obtain ⟨⟨b0, b1⟩, c0, c1⟩ := HS.out _ hk0
      have HC := Lib.hid (ro_levels N (HSO.out.kept hk0) (by omega))
      go_wp2_with fail
      refine HC.out.mono ?_
      rintro E13 Z4 ⟨oa4, ok4, oc4, rfl, hS, hK, hn4, -⟩
      replace HS1 := Lib.hid (hK.sl HS1.out)
      replace HS2 := Lib.hid (hK.sl HS2.out)
      replace HS3 := Lib.hid (hK.sl HS3.out)
      have HS4 := Lib.hid hS
      replace hk0 := hk0.trans hK
      clear hK HC b0 b1 c0 c1 hS
      obtain ⟨⟨b0, b1⟩, c0, c1⟩ := HS.out _ hk0
      have HC := Lib.hid (t_paths N x2 x3 (HE.out.kept (HKA.out.trans hk0)))
      go_wp2_with fail
      refine HC.out.mono ?_
      rintro E14 Z5 ⟨rfl, hK⟩
      replace HS1 := Lib.hid (hK.sl HS1.out)
      replace HS2 := Lib.hid (hK.sl HS2.out)
      replace HS3 := Lib.hid (hK.sl HS3.out)
      replace HS4 := Lib.hid (hK.sl HS4.out)
      replace hk0 := hk0.trans hK
      clear hK HC b0 b1 c0 c1
      obtain ⟨⟨b0, b1⟩, c0, c1⟩ := HS.out _ hk0
      have HC := Lib.hid (ro_paths N x2 x3 (HSO.out.kept hk0) (by omega))
      go_wp2_with fail
      refine HC.out.mono ?_
      rintro E15 Z6 ⟨rfl, hK⟩
      replace HS1 := Lib.hid (hK.sl HS1.out)
      replace HS2 := Lib.hid (hK.sl HS2.out)
      replace HS3 := Lib.hid (hK.sl HS3.out)
      replace HS4 := Lib.hid (hK.sl HS4.out)
      replace hk0 := hk0.trans hK
      clear hK HC b0 b1 c0 c1
      obtain ⟨⟨b0, b1⟩, c0, c1⟩ := HS.out _ hk0
      have HK6 := Lib.hid hk0
      have HS6 : Hid (∀ Z, Kept Z6 Z → (Z.cell? ⟨bx, 0, none⟩ = some (.int .i64 N) ∧ Z.cell? ⟨bx, 1, none⟩ = some (.slice s m c)) ∧ Z.cell? ⟨bo, 0, none⟩ = some (.int .i64 N) ∧ Z.cell? ⟨bo, 1, none⟩ = some (.slice oa m oc)) := fun Z hZ => HS.out Z (hk0.trans hZ)
      have HI1 : Hid (∀ Z, Kept Z6 Z → Calls Try.prog 14 #[.slice oa1 ok1 oc1, .slice oa2 ok2 oc2] Z fun e w' => e = .returned (.bool true) ∧ Dr Z w') := fun Z hZ => by
        have h := ints_law (hZ.sl HS1.out) (hZ.sl HS2.out) (by omega) (by omega)
        rw [beq_self_eq_true] at h; exact h
      have HI2 : Hid (∀ Z, Kept Z6 Z → Calls Try.prog 14 #[.slice oa3 ok3 oc3, .slice oa4 ok4 oc4] Z fun e w' => e = .returned (.bool true) ∧ Dr Z w') := fun Z hZ => by
        have h := ints_law (hZ.sl HS3.out) (hZ.sl HS4.out) (by omega) (by omega)
        rw [beq_self_eq_true] at h; exact h
      clear hk0 b0 b1 c0 c1
      generalize (orderT N E).isSome = q1 at *
      generalize (levT N E).isSome = q2 at *
      generalize okP N E x2 x3 = q3 at *
      generalize pthR N E x2 x3 = q4 at *
      go_upto_region 12 with fail
      have KD : Kept Z6 Z6.drew := (Kept.refl _).dr ⟨1, rfl⟩
      refine wp_region_held_drew (S := (fun Z => (Z.cell? ⟨bx, 0, none⟩ = some (.int .i64 N) ∧ Z.cell? ⟨bx, 1, none⟩ = some (.slice s m c)) ∧ Z.cell? ⟨bo, 0, none⟩ = some (.int .i64 N) ∧ Z.cell? ⟨bo, 1, none⟩ = some (.slice oa m oc))) (by kernel_rfl) (by exact HS6.out _ KD) (fun hHeld => ?_)
      apply wpAnyH_take (i := 0)
      case hi => (simp only [List.getElem?_toArray, List.getElem?_cons_succ, List.getElem?_cons_zero]; rfl)
      case hs => kernel_rfl
      case hf => kernel_rfl
      case hr => kernel_rfl
      case hQ => exact fun _ _ _ h => h
      case hy => (refine Or.inl ⟨by rfl, ?_⟩; (intro w' hSw; (try dsimp only at hSw); go_simp) <;> with_reducible rfl)
      case hS => assumption
      try simp only [Act.put, List.setIfInBounds_toArray, List.set_cons_zero, List.set_cons_succ]
      apply wpAnyH_take (i := 1)
      case hi => (simp only [List.getElem?_toArray, List.getElem?_cons_succ, List.getElem?_cons_zero]; rfl)
      case hs => kernel_rfl
      case hf => kernel_rfl
      case hr => kernel_rfl
      case hQ => exact fun _ _ _ h => h
      case hy => (refine Or.inl ⟨by rfl, ?_⟩; (intro w' hSw; (try dsimp only at hSw); go_simp) <;> with_reducible rfl)
      case hS => assumption
      try simp only [Act.put, List.setIfInBounds_toArray, List.set_cons_zero, List.set_cons_succ]
      apply wpAnyH_take (i := 2)
      case hi => (simp only [List.getElem?_toArray, List.getElem?_cons_succ, List.getElem?_cons_zero]; rfl)
      case hs => kernel_rfl
      case hf => kernel_rfl
      case hr => kernel_rfl
      case hQ => exact fun _ _ _ h => h
      case hy => (refine Or.inl ⟨by rfl, ?_⟩; (intro w' hSw; (try dsimp only at hSw); go_simp) <;> with_reducible rfl)
      case hS => assumption
      try simp only [Act.put, List.setIfInBounds_toArray, List.set_cons_zero, List.set_cons_succ]
      apply wpAnyH_take (i := 3)
      case hi => (simp only [List.getElem?_toArray, List.getElem?_cons_succ, List.getElem?_cons_zero]; rfl)
      case hs => kernel_rfl
      case hf => kernel_rfl
      case hr => kernel_rfl
      case hQ => exact fun _ _ _ h => h
      case hy => (refine Or.inl ⟨by rfl, ?_⟩; (intro w' hSw; (try dsimp only at hSw); go_simp) <;> with_reducible rfl)
      case hS => assumption
      try simp only [Act.put, List.setIfInBounds_toArray, List.set_cons_zero, List.set_cons_succ]
      apply wpAnyH_take (i := 4)
      case hi => (simp only [List.getElem?_toArray, List.getElem?_cons_succ, List.getElem?_cons_zero]; rfl)
      case hs => kernel_rfl
      case hf => kernel_rfl
      case hr => kernel_rfl
      case hQ => exact fun _ _ _ h => h
      case hy => (refine Or.inl ⟨by rfl, ?_⟩; (intro w' hSw; (try dsimp only at hSw); go_simp) <;> with_reducible rfl)
      case hS => assumption
      try simp only [Act.put, List.setIfInBounds_toArray, List.set_cons_zero, List.set_cons_succ]
      apply wpAnyH_take (i := 5)
      case hi => (simp only [List.getElem?_toArray, List.getElem?_cons_succ, List.getElem?_cons_zero]; rfl)
      case hs => kernel_rfl
      case hf => kernel_rfl
      case hr => kernel_rfl
      case hQ => exact fun _ _ _ h => h
      case hy => (refine Or.inl ⟨by rfl, ?_⟩; (intro w' hSw; (try dsimp only at hSw); go_simp) <;> with_reducible rfl)
      case hS => assumption
      try simp only [Act.put, List.setIfInBounds_toArray, List.set_cons_zero, List.set_cons_succ]
      refine wpAnyH_ready (rs := [6]) (by kernel_rfl) (by simp) ?_
      apply AllReadyH.cons
      case ho => (simp only [List.getElem?_toArray, List.getElem?_cons_succ, List.getElem?_cons_zero]; rfl)
      case hs => exact AllReadyH.nil
      intro K hK
      go_simp
      (go_at_call 14; refine (HI1.out _ KD).mono ?_; rintro E31 Y31 ⟨rfl, J⟩; replace KD := KD.dr J; clear J)
      refine hK.out _ _ (by exact HS6.out _ KD) (fun hHeld => ?_)
      clear hK K
      try simp only [Act.put, List.setIfInBounds_toArray, List.set_cons_zero, List.set_cons_succ]
      apply wpAnyH_take (i := 7)
      case hi => (simp only [List.getElem?_toArray, List.getElem?_cons_succ, List.getElem?_cons_zero]; rfl)
      case hs => kernel_rfl
      case hf => kernel_rfl
      case hr => kernel_rfl
      case hQ => exact fun _ _ _ h => h
      case hy => (refine Or.inl ⟨by rfl, ?_⟩; (intro w' hSw; (try dsimp only at hSw); go_simp) <;> with_reducible rfl)
      case hS => assumption
      try simp only [Act.put, List.setIfInBounds_toArray, List.set_cons_zero, List.set_cons_succ]
      apply wpAnyH_take (i := 8)
      case hi => (simp only [List.getElem?_toArray, List.getElem?_cons_succ, List.getElem?_cons_zero]; rfl)
      case hs => kernel_rfl
      case hf => kernel_rfl
      case hr => kernel_rfl
      case hQ => exact fun _ _ _ h => h
      case hy => (refine Or.inl ⟨by rfl, ?_⟩; (intro w' hSw; (try dsimp only at hSw); go_simp) <;> with_reducible rfl)
      case hS => assumption
      try simp only [Act.put, List.setIfInBounds_toArray, List.set_cons_zero, List.set_cons_succ]
      apply wpAnyH_take (i := 9)
      case hi => (simp only [List.getElem?_toArray, List.getElem?_cons_succ, List.getElem?_cons_zero]; rfl)
      case hs => kernel_rfl
      case hf => kernel_rfl
      case hr => kernel_rfl
      case hQ => exact fun _ _ _ h => h
      case hy => (refine Or.inl ⟨by rfl, ?_⟩; (intro w' hSw; (try dsimp only at hSw); go_simp) <;> with_reducible rfl)
      case hS => assumption
      try simp only [Act.put, List.setIfInBounds_toArray, List.set_cons_zero, List.set_cons_succ]
      apply wpAnyH_take (i := 10)
      case hi => (simp only [List.getElem?_toArray, List.getElem?_cons_succ, List.getElem?_cons_zero]; rfl)
      case hs => kernel_rfl
      case hf => kernel_rfl
      case hr => kernel_rfl
      case hQ => exact fun _ _ _ h => h
      case hy => (refine Or.inl ⟨by rfl, ?_⟩; (intro w' hSw; (try dsimp only at hSw); go_simp) <;> with_reducible rfl)
      case hS => assumption
      try simp only [Act.put, List.setIfInBounds_toArray, List.set_cons_zero, List.set_cons_succ]
      apply wpAnyH_take (i := 11)
      case hi => (simp only [List.getElem?_toArray, List.getElem?_cons_succ, List.getElem?_cons_zero]; rfl)
      case hs => kernel_rfl
      case hf => kernel_rfl
      case hr => kernel_rfl
      case hQ => exact fun _ _ _ h => h
      case hy => (refine Or.inl ⟨by rfl, ?_⟩; (intro w' hSw; (try dsimp only at hSw); go_simp) <;> with_reducible rfl)
      case hS => assumption
      try simp only [Act.put, List.setIfInBounds_toArray, List.set_cons_zero, List.set_cons_succ]
      apply wpAnyH_take (i := 12)
      case hi => (simp only [List.getElem?_toArray, List.getElem?_cons_succ, List.getElem?_cons_zero]; rfl)
      case hs => kernel_rfl
      case hf => kernel_rfl
      case hr => kernel_rfl
      case hQ => exact fun _ _ _ h => h
      case hy => (refine Or.inl ⟨by rfl, ?_⟩; (intro w' hSw; (try dsimp only at hSw); go_simp) <;> with_reducible rfl)
      case hS => assumption
      try simp only [Act.put, List.setIfInBounds_toArray, List.set_cons_zero, List.set_cons_succ]
      apply wpAnyH_take (i := 13)
      case hi => (simp only [List.getElem?_toArray, List.getElem?_cons_succ, List.getElem?_cons_zero]; rfl)
      case hs => kernel_rfl
      case hf => kernel_rfl
      case hr => kernel_rfl
      case hQ => exact fun _ _ _ h => h
      case hy => (refine Or.inl ⟨by rfl, ?_⟩; (intro w' hSw; (try dsimp only at hSw); go_simp) <;> with_reducible rfl)
      case hS => assumption
      try simp only [Act.put, List.setIfInBounds_toArray, List.set_cons_zero, List.set_cons_succ]
      apply wpAnyH_take (i := 14)
      case hi => (simp only [List.getElem?_toArray, List.getElem?_cons_succ, List.getElem?_cons_zero]; rfl)
      case hs => kernel_rfl
      case hf => kernel_rfl
      case hr => kernel_rfl
      case hQ => exact fun _ _ _ h => h
      case hy => (refine Or.inl ⟨by rfl, ?_⟩; (intro w' hSw; (try dsimp only at hSw); go_simp) <;> with_reducible rfl)
      case hS => assumption
      try simp only [Act.put, List.setIfInBounds_toArray, List.set_cons_zero, List.set_cons_succ]
      apply wpAnyH_take (i := 15)
      case hi => (simp only [List.getElem?_toArray, List.getElem?_cons_succ, List.getElem?_cons_zero]; rfl)
      case hs => kernel_rfl
      case hf => kernel_rfl
      case hr => kernel_rfl
      case hQ => exact fun _ _ _ h => h
      case hy => (refine Or.inl ⟨by rfl, ?_⟩; (intro w' hSw; (try dsimp only at hSw); go_simp) <;> with_reducible rfl)
      case hS => assumption
      try simp only [Act.put, List.setIfInBounds_toArray, List.set_cons_zero, List.set_cons_succ]
      refine wpAnyH_ready (rs := [16]) (by kernel_rfl) (by simp) ?_
      apply AllReadyH.cons
      case ho => (simp only [List.getElem?_toArray, List.getElem?_cons_succ, List.getElem?_cons_zero]; rfl)
      case hs => exact AllReadyH.nil
      intro K hK
      go_simp
      (go_at_call 14; refine (HI2.out _ KD).mono ?_; rintro E32 Y32 ⟨rfl, J⟩; replace KD := KD.dr J; clear J)
      refine hK.out _ _ (by exact HS6.out _ KD) (fun hHeld => ?_)
      clear hK K
      try simp only [Act.put, List.setIfInBounds_toArray, List.set_cons_zero, List.set_cons_succ]
      apply wpAnyH_take (i := 17)
      case hi => (simp only [List.getElem?_toArray, List.getElem?_cons_succ, List.getElem?_cons_zero]; rfl)
      case hs => kernel_rfl
      case hf => kernel_rfl
      case hr => kernel_rfl
      case hQ => exact fun _ _ _ h => h
      case hy => (refine Or.inl ⟨by rfl, ?_⟩; (intro w' hSw; (try dsimp only at hSw); go_simp) <;> with_reducible rfl)
      case hS => assumption
      try simp only [Act.put, List.setIfInBounds_toArray, List.set_cons_zero, List.set_cons_succ]
      apply wpAnyH_take (i := 18)
      case hi => (simp only [List.getElem?_toArray, List.getElem?_cons_succ, List.getElem?_cons_zero]; rfl)
      case hs => kernel_rfl
      case hf => kernel_rfl
      case hr => kernel_rfl
      case hQ => exact fun _ _ _ h => h
      case hy => (refine Or.inl ⟨by rfl, ?_⟩; (intro w' hSw; (try dsimp only at hSw); go_simp) <;> with_reducible rfl)
      case hS => assumption
      try simp only [Act.put, List.setIfInBounds_toArray, List.set_cons_zero, List.set_cons_succ]
      apply wpAnyH_take (i := 19)
      case hi => (simp only [List.getElem?_toArray, List.getElem?_cons_succ, List.getElem?_cons_zero]; rfl)
      case hs => kernel_rfl
      case hf => kernel_rfl
      case hr => kernel_rfl
      case hQ => exact fun _ _ _ h => h
      case hy => (refine Or.inl ⟨by rfl, ?_⟩; (intro w' hSw; (try dsimp only at hSw); go_simp) <;> with_reducible rfl)
      case hS => assumption
      try simp only [Act.put, List.setIfInBounds_toArray, List.set_cons_zero, List.set_cons_succ]
      apply wpAnyH_take (i := 20)
      case hi => (simp only [List.getElem?_toArray, List.getElem?_cons_succ, List.getElem?_cons_zero]; rfl)
      case hs => kernel_rfl
      case hf => kernel_rfl
      case hr => kernel_rfl
      case hQ => exact fun _ _ _ h => h
      case hy => (refine Or.inl ⟨by rfl, ?_⟩; (intro w' hSw; (try dsimp only at hSw); go_simp) <;> with_reducible rfl)
      case hS => assumption
      try simp only [Act.put, List.setIfInBounds_toArray, List.set_cons_zero, List.set_cons_succ]
      apply wpAnyH_take (i := 21)
      case hi => (simp only [List.getElem?_toArray, List.getElem?_cons_succ, List.getElem?_cons_zero]; rfl)
      case hs => kernel_rfl
      case hf => kernel_rfl
      case hr => kernel_rfl
      case hQ => exact fun _ _ _ h => h
      case hy => (refine Or.inl ⟨by rfl, ?_⟩; (intro w' hSw; (try dsimp only at hSw); go_simp) <;> with_reducible rfl)
      case hS => assumption
      try simp only [Act.put, List.setIfInBounds_toArray, List.set_cons_zero, List.set_cons_succ]
      apply wpAnyH_take (i := 22)
      case hi => (simp only [List.getElem?_toArray, List.getElem?_cons_succ, List.getElem?_cons_zero]; rfl)
      case hs => kernel_rfl
      case hf => kernel_rfl
      case hr => kernel_rfl
      case hQ => exact fun _ _ _ h => h
      case hy => (refine Or.inl ⟨by rfl, ?_⟩; (intro w' hSw; (try dsimp only at hSw); go_simp) <;> with_reducible rfl)
      case hS => assumption
      try simp only [Act.put, List.setIfInBounds_toArray, List.set_cons_zero, List.set_cons_succ]
      apply wpAnyH_take (i := 23)
      case hi => (simp only [List.getElem?_toArray, List.getElem?_cons_succ, List.getElem?_cons_zero]; rfl)
      case hs => kernel_rfl
      case hf => kernel_rfl
      case hr => kernel_rfl
      case hQ => exact fun _ _ _ h => h
      case hy => (refine Or.inl ⟨by rfl, ?_⟩; (intro w' hSw; (try dsimp only at hSw); go_simp) <;> with_reducible rfl)
      case hS => assumption
      try simp only [Act.put, List.setIfInBounds_toArray, List.set_cons_zero, List.set_cons_succ]
      apply wpAnyH_take (i := 24)
      case hi => (simp only [List.getElem?_toArray, List.getElem?_cons_succ, List.getElem?_cons_zero]; rfl)
      case hs => kernel_rfl
      case hf => kernel_rfl
      case hr => kernel_rfl
      case hQ => exact fun _ _ _ h => h
      case hy => (refine Or.inl ⟨by rfl, ?_⟩; (intro w' hSw; (try dsimp only at hSw); go_simp) <;> with_reducible rfl)
      case hS => assumption
      try simp only [Act.put, List.setIfInBounds_toArray, List.set_cons_zero, List.set_cons_succ]
      apply wpAnyH_take (i := 25)
      case hi => (simp only [List.getElem?_toArray, List.getElem?_cons_succ, List.getElem?_cons_zero]; rfl)
      case hs => kernel_rfl
      case hf => kernel_rfl
      case hr => kernel_rfl
      case hQ => exact fun _ _ _ h => h
      case hy => (refine Or.inl ⟨by rfl, ?_⟩; (intro w' hSw; (try dsimp only at hSw); go_simp) <;> with_reducible rfl)
      case hS => assumption
      try simp only [Act.put, List.setIfInBounds_toArray, List.set_cons_zero, List.set_cons_succ]
      apply wpAnyH_take (i := 26)
      case hi => (simp only [List.getElem?_toArray, List.getElem?_cons_succ, List.getElem?_cons_zero]; rfl)
      case hs => kernel_rfl
      case hf => kernel_rfl
      case hr => kernel_rfl
      case hQ => exact fun _ _ _ h => h
      case hy => (refine Or.inl ⟨by rfl, ?_⟩; (intro w' hSw; (try dsimp only at hSw); go_simp) <;> with_reducible rfl)
      case hS => assumption
      try simp only [Act.put, List.setIfInBounds_toArray, List.set_cons_zero, List.set_cons_succ]
      apply wpAnyH_take (i := 27)
      case hi => (simp only [List.getElem?_toArray, List.getElem?_cons_succ, List.getElem?_cons_zero]; rfl)
      case hs => kernel_rfl
      case hf => kernel_rfl
      case hr => kernel_rfl
      case hQ => exact fun _ _ _ h => h
      case hy => (refine Or.inl ⟨by rfl, ?_⟩; (intro w' hSw; (try dsimp only at hSw); go_simp) <;> with_reducible rfl)
      case hS => assumption
      try simp only [Act.put, List.setIfInBounds_toArray, List.set_cons_zero, List.set_cons_succ]
      apply wpAnyH_take (i := 28)
      case hi => (simp only [List.getElem?_toArray, List.getElem?_cons_succ, List.getElem?_cons_zero]; rfl)
      case hs => kernel_rfl
      case hf => kernel_rfl
      case hr => kernel_rfl
      case hQ => exact fun _ _ _ h => h
      case hy => (refine Or.inl ⟨by rfl, ?_⟩; (intro w' hSw; (try dsimp only at hSw); go_simp) <;> with_reducible rfl)
      case hS => assumption
      try simp only [Act.put, List.setIfInBounds_toArray, List.set_cons_zero, List.set_cons_succ]
      apply wpAnyH_take (i := 29)
      case hi => (simp only [List.getElem?_toArray, List.getElem?_cons_succ, List.getElem?_cons_zero]; rfl)
      case hs => kernel_rfl
      case hf => kernel_rfl
      case hr => kernel_rfl
      case hQ => exact fun _ _ _ h => h
      case hy => (refine Or.inl ⟨by rfl, ?_⟩; (intro w' hSw; (try dsimp only at hSw); go_simp) <;> with_reducible rfl)
      case hS => assumption
      try simp only [Act.put, List.setIfInBounds_toArray, List.set_cons_zero, List.set_cons_succ]
      apply wpAnyH_take (i := 30)
      case hi => (simp only [List.getElem?_toArray, List.getElem?_cons_succ, List.getElem?_cons_zero]; rfl)
      case hs => kernel_rfl
      case hf => kernel_rfl
      case hr => kernel_rfl
      case hQ => exact fun _ _ _ h => h
      case hy => (refine Or.inl ⟨by rfl, ?_⟩; (intro w' hSw; (try dsimp only at hSw); go_simp) <;> with_reducible rfl)
      case hS => assumption
      try simp only [Act.put, List.setIfInBounds_toArray, List.set_cons_zero, List.set_cons_succ]
      apply wpAnyH_take (i := 32)
      case hi => (simp only [List.getElem?_toArray, List.getElem?_cons_succ, List.getElem?_cons_zero]; rfl)
      case hs => kernel_rfl
      case hf => kernel_rfl
      case hr => kernel_rfl
      case hQ => exact fun _ _ _ h => h
      case hy => (refine Or.inl ⟨by rfl, ?_⟩; (intro w' hSw; (try dsimp only at hSw); go_simp) <;> with_reducible rfl)
      case hS => assumption
      try simp only [Act.put, List.setIfInBounds_toArray, List.set_cons_zero, List.set_cons_succ]
      apply wpAnyH_take (i := 33)
      case hi => (simp only [List.getElem?_toArray, List.getElem?_cons_succ, List.getElem?_cons_zero]; rfl)
      case hs => kernel_rfl
      case hf => kernel_rfl
      case hr => kernel_rfl
      case hQ => exact fun _ _ _ h => h
      case hy => (refine Or.inl ⟨by rfl, ?_⟩; (intro w' hSw; (try dsimp only at hSw); go_simp) <;> with_reducible rfl)
      case hS => assumption
      try simp only [Act.put, List.setIfInBounds_toArray, List.set_cons_zero, List.set_cons_succ]
      refine wpAnyH_ready (rs := [31]) (by kernel_rfl) (by simp) ?_
      apply AllReadyH.cons
      case ho => (simp only [List.getElem?_toArray, List.getElem?_cons_succ, List.getElem?_cons_zero]; rfl)
      case hs => exact AllReadyH.nil
      intro K hK
      go_simp
      (go_at_call 16; refine (t_is N (HE.out.kept (HKA.out.trans (HK6.out.trans KD))) (by omega) ((HKA.out.trans (HK6.out.trans KD)).sl HL.out) (by omega)).mono ?_; rintro E33 Y33 ⟨rfl, J⟩; replace KD := KD.trans J; clear J)
      refine hK.out _ _ (by exact HS6.out _ KD) (fun hHeld => ?_)
      clear hK K
      try simp only [Act.put, List.setIfInBounds_toArray, List.set_cons_zero, List.set_cons_succ]
      refine wpAnyH_ready (rs := [34]) (by kernel_rfl) (by simp) ?_
      apply AllReadyH.cons
      case ho => (simp only [List.getElem?_toArray, List.getElem?_cons_succ, List.getElem?_cons_zero]; rfl)
      case hs => exact AllReadyH.nil
      intro K hK
      go_simp
      (go_at_call 21; refine (ro_is N (HSO.out.kept (HK6.out.trans KD)) (by omega) ((HKA.out.trans (HK6.out.trans KD)).sl HL.out) (by omega)).mono ?_; rintro E34 Y34 ⟨rfl, J⟩; rw [← is_same]; replace KD := KD.trans J; clear J)
      refine hK.out _ _ (by exact HS6.out _ KD) (fun hHeld => ?_)
      clear hK K
      try simp only [Act.put, List.setIfInBounds_toArray, List.set_cons_zero, List.set_cons_succ]
      apply wpAnyH_take (i := 35)
      case hi => (simp only [List.getElem?_toArray, List.getElem?_cons_succ, List.getElem?_cons_zero]; rfl)
      case hs => kernel_rfl
      case hf => kernel_rfl
      case hr => kernel_rfl
      case hQ => exact fun _ _ _ h => h
      case hy => (refine Or.inl ⟨by rfl, ?_⟩; (intro w' hSw; (try dsimp only at hSw); go_simp) <;> with_reducible rfl)
      case hS => assumption
      try simp only [Act.put, List.setIfInBounds_toArray, List.set_cons_zero, List.set_cons_succ]
      apply wpAnyH_take (i := 36)
      case hi => (simp only [List.getElem?_toArray, List.getElem?_cons_succ, List.getElem?_cons_zero]; rfl)
      case hs => kernel_rfl
      case hf => kernel_rfl
      case hr => kernel_rfl
      case hQ => exact fun _ _ _ h => h
      case hy => (refine Or.inl ⟨by rfl, ?_⟩; (intro w' hSw; (try dsimp only at hSw); go_simp) <;> with_reducible rfl)
      case hS => assumption
      try simp only [Act.put, List.setIfInBounds_toArray, List.set_cons_zero, List.set_cons_succ]
      apply wpAnyH_take (i := 37)
      case hi => (simp only [List.getElem?_toArray, List.getElem?_cons_succ, List.getElem?_cons_zero]; rfl)
      case hs => kernel_rfl
      case hf => kernel_rfl
      case hr => kernel_rfl
      case hQ => exact fun _ _ _ h => h
      case hy => (refine Or.inl ⟨by rfl, ?_⟩; (intro w' hSw; (try dsimp only at hSw); go_simp) <;> with_reducible rfl)
      case hS => assumption
      try simp only [Act.put, List.setIfInBounds_toArray, List.set_cons_zero, List.set_cons_succ]
      apply wpAnyH_take (i := 38)
      case hi => (simp only [List.getElem?_toArray, List.getElem?_cons_succ, List.getElem?_cons_zero]; rfl)
      case hs => kernel_rfl
      case hf => kernel_rfl
      case hr => kernel_rfl
      case hQ => exact fun _ _ _ h => h
      case hy => (refine Or.inl ⟨by rfl, ?_⟩; (intro w' hSw; (try dsimp only at hSw); go_simp) <;> with_reducible rfl)
      case hS => assumption
      try simp only [Act.put, List.setIfInBounds_toArray, List.set_cons_zero, List.set_cons_succ]
      apply wpAnyH_take (i := 40)
      case hi => (simp only [List.getElem?_toArray, List.getElem?_cons_succ, List.getElem?_cons_zero]; rfl)
      case hs => kernel_rfl
      case hf => kernel_rfl
      case hr => kernel_rfl
      case hQ => exact fun _ _ _ h => h
      case hy => (refine Or.inl ⟨by rfl, ?_⟩; (intro w' hSw; (try dsimp only at hSw); go_simp) <;> with_reducible rfl)
      case hS => assumption
      try simp only [Act.put, List.setIfInBounds_toArray, List.set_cons_zero, List.set_cons_succ]
      refine wpAnyH_ready (rs := [39]) (by kernel_rfl) (by simp) ?_
      apply AllReadyH.cons
      case ho => (simp only [List.getElem?_toArray, List.getElem?_cons_succ, List.getElem?_cons_zero]; rfl)
      case hs => exact AllReadyH.nil
      intro K hK
      go_simp
      (go_at_call 15; refine (t_long N (HE.out.kept (HKA.out.trans (HK6.out.trans KD)))).mono ?_; rintro E35 Y35 ⟨rfl, J⟩; replace KD := KD.trans J; clear J)
      refine hK.out _ _ (by exact HS6.out _ KD) (fun hHeld => ?_)
      clear hK K
      try simp only [Act.put, List.setIfInBounds_toArray, List.set_cons_zero, List.set_cons_succ]
      refine wpAnyH_ready (rs := [41]) (by kernel_rfl) (by simp) ?_
      apply AllReadyH.cons
      case ho => (simp only [List.getElem?_toArray, List.getElem?_cons_succ, List.getElem?_cons_zero]; rfl)
      case hs => exact AllReadyH.nil
      intro K hK
      go_simp
      (go_at_call 22; refine (ro_long N (HSO.out.kept (HK6.out.trans KD)) (by omega)).mono ?_; rintro E36 Y36 ⟨rfl, J⟩; replace KD := KD.trans J; clear J)
      refine hK.out _ _ (by exact HS6.out _ KD) (fun hHeld => ?_)
      clear hK K
      try simp only [Act.put, List.setIfInBounds_toArray, List.set_cons_zero, List.set_cons_succ]
      apply wpAnyH_take (i := 42)
      case hi => (simp only [List.getElem?_toArray, List.getElem?_cons_succ, List.getElem?_cons_zero]; rfl)
      case hs => kernel_rfl
      case hf => kernel_rfl
      case hr => kernel_rfl
      case hQ => exact fun _ _ _ h => h
      case hy => (refine Or.inl ⟨by rfl, ?_⟩; (intro w' hSw; (try dsimp only at hSw); go_simp) <;> with_reducible rfl)
      case hS => assumption
      try simp only [Act.put, List.setIfInBounds_toArray, List.set_cons_zero, List.set_cons_succ]
      apply wpAnyH_take (i := 43)
      case hi => (simp only [List.getElem?_toArray, List.getElem?_cons_succ, List.getElem?_cons_zero]; rfl)
      case hs => kernel_rfl
      case hf => kernel_rfl
      case hr => kernel_rfl
      case hQ => exact fun _ _ _ h => h
      case hy => (refine Or.inl ⟨by rfl, ?_⟩; (intro w' hSw; (try dsimp only at hSw); go_simp) <;> with_reducible rfl)
      case hS => assumption
      try simp only [Act.put, List.setIfInBounds_toArray, List.set_cons_zero, List.set_cons_succ]
      apply wpAnyH_take (i := 44)
      case hi => (simp only [List.getElem?_toArray, List.getElem?_cons_succ, List.getElem?_cons_zero]; rfl)
      case hs => kernel_rfl
      case hf => kernel_rfl
      case hr => kernel_rfl
      case hQ => exact fun _ _ _ h => h
      case hy => (refine Or.inl ⟨by rfl, ?_⟩; (intro w' hSw; (try dsimp only at hSw); go_simp) <;> with_reducible rfl)
      case hS => assumption
      try simp only [Act.put, List.setIfInBounds_toArray, List.set_cons_zero, List.set_cons_succ]
      refine wpAnyH_done (by kernel_rfl) ?_ _
      have HKF := Lib.hid (HKA.out.trans (HK6.out.trans KD))
      go_wp2_with fail
      go_ret
      first | exact ⟨rfl, HKF.out⟩ | exact ⟨rfl, hbx ▸ (HKF.out : Below w.heap.size w _)⟩
    · have g2 : (30 : Int) < ln := by omega
      go_wp2_with fail
      go_ret
      first | exact ⟨rfl, HK1.out⟩ | exact ⟨rfl, hbx ▸ (HK1.out : Below w.heap.size w _)⟩
  · have g1 : (60 : Int) < m := by omega
    go_wp2_with fail
    go_ret
    first | exact ⟨rfl, HK1.out⟩ | exact ⟨rfl, hbx ▸ (HK1.out : Below w.heap.size w _)⟩
  end Go.Proofs.Ytmejphlpcgochaa
