/- EpochsKnown: the law's walk. -/
import Derived.Test.YtfblkdecbjplbaaEpKnown
import Derived.Deep.RegionHeld3
import Derived.Deep.CutRange
set_option linter.unusedVariables false
set_option linter.unusedSimpArgs false
namespace Go.Proofs.Ytfblkdecbjplbaa
open Go.RowKit
set_option maxRecDepth 100000 in
set_option maxHeartbeats 8000000 in
theorem epKnown_walk (w : World) : Calls Try.prog 6 #[] w fun e w' => e = .returned (.bool true) ∧ Below w.heap.size w w' := by
  go_enter Try.func6, Try.ntmps6
  go_wp2_with fail
  refine (awake8 _).mono ?_
  rintro e w1 ⟨rfl, k1⟩
  have K : Kept w w1 := k1
  clear k1
  go_wp2_with fail
  refine (ep_at 1 0 17592186044416 _ (by omega) (by omega) (by omega) (by omega) (by omega)).mono ?_
  rintro E w' ⟨rfl, rfl⟩
  go_wp2_with fail
  refine (ep_at 1 2 17592186044418 _ (by omega) (by omega) (by omega) (by omega) (by omega)).mono ?_
  rintro E w' ⟨rfl, rfl⟩
  have hs := sl_lit .u64 w1 26 (0, 0) [17592186044416, 17592186044418] 2 rfl (by unfold maxLen; omega)
  have HO := Lib.hid (ep_of_no _ 2 2 [17592186044416, 17592186044418] _ hs (isW_of_mem (by decide)) (by omega) (by omega) (.inl (by decide)))
  clear hs
  go_wp2_with fail
  refine HO.out.mono ?_
  rintro E v2 ⟨rfl, kv⟩
  have kk : Kept w1 (v2.alloc (.cells #[.slice none 0 0, .int .i64 0] 29)) := ((kept_al w1 _).trans kv).trans (kept_al v2 _)
  replace K := K.trans kk
  clear HO kv kk
  go_wp2_with fail
  generalize World.alloc v2 _ = w2 at *
  refine (ep_at 2 0 35184372088832 _ (by omega) (by omega) (by omega) (by omega) (by omega)).mono ?_
  rintro E w' ⟨rfl, rfl⟩
  go_wp2_with fail
  refine (ep_at 1 1 17592186044417 _ (by omega) (by omega) (by omega) (by omega) (by omega)).mono ?_
  rintro E w' ⟨rfl, rfl⟩
  have hs := sl_lit .u64 w2 26 (0, 0) [35184372088832, 17592186044417] 2 rfl (by unfold maxLen; omega)
  have HO := Lib.hid (ep_of_no _ 2 2 [35184372088832, 17592186044417] _ hs (isW_of_mem (by decide)) (by omega) (by omega) (.inr (by decide)))
  clear hs
  go_wp2_with fail
  refine HO.out.mono ?_
  rintro E v3 ⟨rfl, kv⟩
  have kk : Kept w2 (v3.alloc (.cells #[.slice none 0 0, .int .i64 0] 29)) := ((kept_al w2 _).trans kv).trans (kept_al v3 _)
  replace K := K.trans kk
  clear HO kv kk
  have HO := Lib.hid (fun V => ep_of none 0 0 [] V (sl_nil _ _) (fun i => by simp) (fun i hi => by simp at hi) (by decide) (by omega))
  go_wp2_with fail
  generalize World.alloc v3 _ = w3 at *
  refine (HO.out _).mono ?_
  rintro E v4 ⟨an, nn, cn, rfl, hs, kv⟩
  rw [show endOf [] = 0 from rfl]
  rw [show tabL [] 0 = [] from rfl] at hs
  obtain rfl : 0 = nn := hs.1
  have TN : TB (v4.alloc (.cells #[.slice an 0 cn, .int .i64 0] 29)) v4.heap.size an 0 cn [] 0 := tb_box hs
  have kk := kv.trans (kept_al v4 (.cells #[.slice an 0 cn, .int .i64 0] 29))
  replace K := K.trans kk
  clear HO hs kv kk
  go_wp2_with fail
  generalize World.alloc v4 _ = w4 at *
  refine (ep_at 1 0 17592186044416 _ (by omega) (by omega) (by omega) (by omega) (by omega)).mono ?_
  rintro E w' ⟨rfl, rfl⟩
  go_wp2_with fail
  refine (ep_at 3 5 52776558133253 _ (by omega) (by omega) (by omega) (by omega) (by omega)).mono ?_
  rintro E w' ⟨rfl, rfl⟩
  have TX : TB ((w4.alloc (.cells #[.int .u64 17592186044416, .int .u64 52776558133253] 26 (0, 0))).alloc (.cells #[.slice (some ⟨w4.heap.size, 0, none⟩) 2 2, .int .i64 9] 29)) (w4.heap.size + 1) (some ⟨w4.heap.size, 0, none⟩) 2 2 [17592186044416, 52776558133253] 9 := tb_lit w4 [17592186044416, 52776558133253] 2 9 rfl (by omega)
  have kk : Kept w4 ((w4.alloc (.cells #[.int .u64 17592186044416, .int .u64 52776558133253] 26 (0, 0))).alloc (.cells #[.slice (some ⟨w4.heap.size, 0, none⟩) 2 2, .int .i64 9] 29)) := (kept_al w4 _).trans (kept_al _ _)
  replace TN := TN.kept kk
  replace K := K.trans kk
  clear kk
  go_wp2_with fail
  generalize World.alloc (World.alloc w4 _) _ = w5 at *
  refine (ep_at 1 0 17592186044416 _ (by omega) (by omega) (by omega) (by omega) (by omega)).mono ?_
  rintro E w' ⟨rfl, rfl⟩
  go_wp2_with fail
  refine (ep_at 2 4 35184372088836 _ (by omega) (by omega) (by omega) (by omega) (by omega)).mono ?_
  rintro E w' ⟨rfl, rfl⟩
  go_wp2_with fail
  refine (ep_at 4 6 70368744177670 _ (by omega) (by omega) (by omega) (by omega) (by omega)).mono ?_
  rintro E w' ⟨rfl, rfl⟩
  have TY : TB ((w5.alloc (.cells #[.int .u64 17592186044416, .int .u64 35184372088836, .int .u64 70368744177670] 26 (0, 0))).alloc (.cells #[.slice (some ⟨w5.heap.size, 0, none⟩) 3 3, .int .i64 8] 29)) (w5.heap.size + 1) (some ⟨w5.heap.size, 0, none⟩) 3 3 [17592186044416, 35184372088836, 70368744177670] 8 := tb_lit w5 [17592186044416, 35184372088836, 70368744177670] 3 8 rfl (by omega)
  have kk : Kept w5 ((w5.alloc (.cells #[.int .u64 17592186044416, .int .u64 35184372088836, .int .u64 70368744177670] 26 (0, 0))).alloc (.cells #[.slice (some ⟨w5.heap.size, 0, none⟩) 3 3, .int .i64 8] 29)) := (kept_al w5 _).trans (kept_al _ _)
  replace TN := TN.kept kk
  replace TX := TX.kept kk
  replace K := K.trans kk
  clear kk
  go_wp2_with fail
  generalize World.alloc (World.alloc w5 _) _ = w6 at *
  refine (ep_at 2 0 35184372088832 _ (by omega) (by omega) (by omega) (by omega) (by omega)).mono ?_
  rintro E w' ⟨rfl, rfl⟩
  have TZ : TB ((w6.alloc (.cells #[.int .u64 35184372088832] 26 (0, 0))).alloc (.cells #[.slice (some ⟨w6.heap.size, 0, none⟩) 1 1, .int .i64 3] 29)) (w6.heap.size + 1) (some ⟨w6.heap.size, 0, none⟩) 1 1 [35184372088832] 3 := tb_lit w6 [35184372088832] 1 3 rfl (by omega)
  have kk : Kept w6 ((w6.alloc (.cells #[.int .u64 35184372088832] 26 (0, 0))).alloc (.cells #[.slice (some ⟨w6.heap.size, 0, none⟩) 1 1, .int .i64 3] 29)) := (kept_al w6 _).trans (kept_al _ _)
  replace TN := TN.kept kk
  replace TX := TX.kept kk
  replace TY := TY.kept kk
  replace K := K.trans kk
  clear kk
  have p0 := TX.1
  have p1 := TX.2.1
  go_wp2_with fail
  generalize World.alloc (World.alloc w6 _) _ = w7 at *
  clear p0 p1
  refine (ep_tell _ 2 _ [17592186044416, 52776558133253] 9 4 _ TX.2.2 (isW_of_mem (by decide))).mono ?_
  rintro E w8 ⟨rfl, kk⟩
  rw [show atI [17592186044416, 52776558133253] 9 4 = (1, true) by decide +kernel]
  dsimp only
  replace TN := TN.kept kk
  replace TX := TX.kept kk
  replace TY := TY.kept kk
  replace TZ := TZ.kept kk
  replace K := K.trans kk
  clear kk
  have p0 := TX.1
  have p1 := TX.2.1
  go_wp2_with fail
  clear p0 p1
  refine (ep_tell _ 2 _ [17592186044416, 52776558133253] 9 8 _ TX.2.2 (isW_of_mem (by decide))).mono ?_
  rintro E w9 ⟨rfl, kk⟩
  rw [show atI [17592186044416, 52776558133253] 9 8 = (3, true) by decide +kernel]
  dsimp only
  replace TN := TN.kept kk
  replace TX := TX.kept kk
  replace TY := TY.kept kk
  replace TZ := TZ.kept kk
  replace K := K.trans kk
  clear kk
  have p0 := TX.1
  have p1 := TX.2.1
  go_wp2_with fail
  clear p0 p1
  refine (ep_tell _ 2 _ [17592186044416, 52776558133253] 9 9 _ TX.2.2 (isW_of_mem (by decide))).mono ?_
  rintro E w10 ⟨rfl, kk⟩
  rw [show atI [17592186044416, 52776558133253] 9 9 = (0, false) by decide +kernel]
  dsimp only
  replace TN := TN.kept kk
  replace TX := TX.kept kk
  replace TY := TY.kept kk
  replace TZ := TZ.kept kk
  replace K := K.trans kk
  clear kk
  go_wp2_with fail
  refine (ep_at 1 3 17592186044419 _ (by omega) (by omega) (by omega) (by omega) (by omega)).mono ?_
  rintro E w' ⟨rfl, rfl⟩
  have hs := sl_lit .u64 w10 26 (0, 0) [17592186044419] 1 rfl (by unfold maxLen; omega)
  have HO := Lib.hid (ep_tell _ 1 1 [17592186044419] 9 2 _ hs (isW_of_mem (by decide)))
  clear hs
  go_wp2_with fail
  refine HO.out.mono ?_
  rintro E w11 ⟨rfl, kv⟩
  rw [show atI [17592186044419] 9 2 = (0, false) by decide +kernel]
  dsimp only
  have kk := (kept_al w10 _).trans kv
  replace TN := TN.kept kk
  replace TX := TX.kept kk
  replace TY := TY.kept kk
  replace TZ := TZ.kept kk
  replace K := K.trans kk
  clear HO kv kk
  have p0 := TX.1
  have p1 := TX.2.1
  go_wp2_with fail
  clear p0 p1
  refine (ep_cut_yes _ 2 _ 1 [17592186044416, 52776558133253] 9 5 _ TX.2.2 (isW_of_mem (by decide)) (by decide +kernel) (by decide +kernel) (by omega) (by omega) (by decide +kernel) (fun j h1 h2 => by (obtain rfl : j = 1 := by omega); decide +kernel) (by omega)).mono ?_
  rintro E v12 ⟨a12, c12, rfl, hs, kv⟩
  have TJ : TB (v12.alloc (.cells #[.slice a12 1 c12, .int .i64 5] 29)) v12.heap.size a12 1 c12 [17592186044416] 5 := tb_box hs
  have kk := kv.trans (kept_al v12 (.cells #[.slice a12 1 c12, .int .i64 5] 29))
  replace TN := TN.kept kk
  replace TX := TX.kept kk
  replace TY := TY.kept kk
  replace TZ := TZ.kept kk
  replace K := K.trans kk
  clear hs kv kk
  have p0 := TX.1
  have p1 := TX.2.1
  go_wp2_with fail
  generalize World.alloc v12 _ = w12 at *
  clear p0 p1
  refine (ep_cut_above _ 2 _ [17592186044416, 52776558133253] 9 10 _ TX.2.2 (isW_of_mem (by decide)) (by decide +kernel) (by decide +kernel) (by omega)).mono ?_
  rintro E v13 ⟨rfl, kv⟩
  have kk := kv.trans (kept_al v13 (.cells #[.slice none 0 0, .int .i64 0] 29))
  replace TN := TN.kept kk
  replace TX := TX.kept kk
  replace TY := TY.kept kk
  replace TZ := TZ.kept kk
  replace TJ := TJ.kept kk
  replace K := K.trans kk
  clear kv kk
  go_wp2_with fail
  generalize World.alloc v13 _ = w13 at *
  refine (ep_at 1 3 17592186044419 _ (by omega) (by omega) (by omega) (by omega) (by omega)).mono ?_
  rintro E w' ⟨rfl, rfl⟩
  have hs := sl_lit .u64 w13 26 (0, 0) [17592186044419] 1 rfl (by unfold maxLen; omega)
  have HO := Lib.hid (ep_cut_yes _ 1 1 0 [17592186044419] 9 3 _ hs (isW_of_mem (by decide)) (by decide +kernel) (by decide +kernel) (by omega) (by omega) (fun j h => by omega) (fun j h1 h2 => by (obtain rfl : j = 0 := by omega); decide +kernel) (by omega))
  clear hs
  go_wp2_with fail
  refine HO.out.mono ?_
  rintro E v14 ⟨a14, c14, rfl, hs, kv⟩
  have TM : TB (v14.alloc (.cells #[.slice a14 0 c14, .int .i64 3] 29)) v14.heap.size a14 0 c14 [] 3 := tb_box hs
  have kk := ((kept_al w13 _).trans kv).trans (kept_al v14 (.cells #[.slice a14 0 c14, .int .i64 3] 29))
  replace TN := TN.kept kk
  replace TX := TX.kept kk
  replace TY := TY.kept kk
  replace TZ := TZ.kept kk
  replace TJ := TJ.kept kk
  replace K := K.trans kk
  clear HO hs kv kk
  have p0 := TX.1
  have p1 := TX.2.1
  go_wp2_with fail
  clear p0 p1
  generalize World.alloc v14 _ = w14 at *
  go_cut [25] from 29 to 111 (fun b wx => b = .bool false ∧ Kept w14 wx)
  case first =>
    have HX := Lib.hid TX
    have HXs : Hid (∀ V, Kept w14 V → Sl .u64 V (some ⟨w4.heap.size, 0, none⟩) 2 2 [17592186044416, 52776558133253]) := fun V k => k.sl HX.out.2.2
    have HC : Hid (∀ V, Kept w14 V → V.cell? ⟨w4.heap.size + 1, 0, none⟩ = some (.slice (some ⟨w4.heap.size, 0, none⟩) 2 2) ∧ V.cell? ⟨w4.heap.size + 1, 1, none⟩ = some (.int .i64 9)) := fun V k => ⟨k.cel HX.out.1, k.cel HX.out.2.1⟩
    have KD : Kept w14 w14.drew := (Kept.refl _).dr ⟨1, rfl⟩
    have gN0 : ∀ (V : World), (V.alloc (.cells #[.slice none 0 0, .int .i64 0] 29)).cell? ⟨V.heap.size, 0, none⟩ = some (.slice none 0 0) := fun V => (two_cells (heap_alloc_new V _)).1
    have gN1 : ∀ (V : World), (V.alloc (.cells #[.slice none 0 0, .int .i64 0] 29)).cell? ⟨V.heap.size, 1, none⟩ = some (.int .i64 0) := fun V => (two_cells (heap_alloc_new V _)).2
    have gF0 : ∀ (V : World), (V.alloc (.cells #[.slice none 0 0, .int .i64 0] 29)).frozen? ⟨V.heap.size, 0, none⟩ = false := fun V => one_free (heap_alloc_new V _) 0
    have gF1 : ∀ (V : World), (V.alloc (.cells #[.slice none 0 0, .int .i64 0] 29)).frozen? ⟨V.heap.size, 1, none⟩ = false := fun V => one_free (heap_alloc_new V _) 1
    clear TX
    go_region_held3 (fun Z => Z.cell? ⟨w4.heap.size + 1, 0, none⟩ = some (.slice (some ⟨w4.heap.size, 0, none⟩) 2 2) ∧ Z.cell? ⟨w4.heap.size + 1, 1, none⟩ = some (.int .i64 9)) (first | exact HC.out _ KD | exact HC.out _ (KD.trans (kept_al _ _)) | exact HC.out _ (KD.onl (only_set2 _ _ _ _) (by intro i hi; have := List.mem_singleton.1 hi; omega))) (first | (go_at_call 8; refine (ep_at 2 9 35184372088841 _ (by omega) (by omega) (by omega) (by omega) (by omega)).mono ?_; rintro e w' ⟨rfl, rfl⟩) | (go_at_call 15; refine (ep_add_low (some ⟨w4.heap.size, 0, none⟩) 2 1 [17592186044416, 52776558133253] 9 35184372088841 _ (HXs.out _ (by first | exact KD | exact KD.trans (kept_al _ _))) (isW_of_mem (by decide)) (by omega) (by omega) (by decide +kernel) (by decide +kernel) (by decide +kernel) (by omega)).mono ?_; rintro e V ⟨rfl, J⟩; have KE : Kept w14 V := (by first | exact KD.trans J | exact (KD.trans (kept_al _ _)).trans J); (first | (have hb := J.only.heap (heap_alloc_new w14.drew (.cells #[.slice none 0 0, .int .i64 0] 29)) (by simp); have hbs : w14.heap.size ≤ w14.drew.heap.size := KD.size; have r0 : V.cell? ⟨w14.heap.size, 0, none⟩ = some (.slice none 0 0) := (two_cells hb).1; have r1 : V.cell? ⟨w14.heap.size, 1, none⟩ = some (.int .i64 0) := (two_cells hb).2; have f0 : V.frozen? ⟨w14.heap.size, 0, none⟩ = false := one_free hb 0; have f1 : V.frozen? ⟨w14.heap.size, 1, none⟩ = false := one_free hb 1; clear hb) | skip); clear KD J; have KD := KE; clear KE))
    all_goals (first | (go_wp2_with fail; done) | skip)
    all_goals (first | go_meet | (go_wp2_with fail; go_meet))
    all_goals (refine ⟨rfl, ?_⟩; first | exact KD.trans (kept_al _ _) | exact KD | exact KD.onl (only_set2 _ w14.heap.size _ _) (by intro i hi; have := List.mem_singleton.1 hi; omega))
  case rest =>
    obtain ⟨rfl, kk⟩ := hcut
    generalize wc = w15 at *

    replace TN := TN.kept kk
    replace TX := TX.kept kk
    replace TY := TY.kept kk
    replace TZ := TZ.kept kk
    replace TJ := TJ.kept kk
    replace TM := TM.kept kk
    replace K := K.trans kk
    clear kk
    have p0 := TX.1
    have p1 := TX.2.1
    go_wp2_with fail
    clear p0 p1
    go_cut [26, 27] from 29 to 111 (fun p b wx => b = .bool true ∧ Kept w15 wx ∧ ∃ q a' n' c', p = .pointer (some ⟨q, 0, none⟩) ∧ TB wx q a' n' c' [17592186044416, 52776558133253] 10)
    case first =>
      have HX := Lib.hid TX
      have HXs : Hid (∀ V, Kept w15 V → Sl .u64 V (some ⟨w4.heap.size, 0, none⟩) 2 2 [17592186044416, 52776558133253]) := fun V k => k.sl HX.out.2.2
      have HC : Hid (∀ V, Kept w15 V → V.cell? ⟨w4.heap.size + 1, 0, none⟩ = some (.slice (some ⟨w4.heap.size, 0, none⟩) 2 2) ∧ V.cell? ⟨w4.heap.size + 1, 1, none⟩ = some (.int .i64 9)) := fun V k => ⟨k.cel HX.out.1, k.cel HX.out.2.1⟩
      have KD : Kept w15 w15.drew := (Kept.refl _).dr ⟨1, rfl⟩
      have gN0 : ∀ (V : World), (V.alloc (.cells #[.slice none 0 0, .int .i64 0] 29)).cell? ⟨V.heap.size, 0, none⟩ = some (.slice none 0 0) := fun V => (two_cells (heap_alloc_new V _)).1
      have gN1 : ∀ (V : World), (V.alloc (.cells #[.slice none 0 0, .int .i64 0] 29)).cell? ⟨V.heap.size, 1, none⟩ = some (.int .i64 0) := fun V => (two_cells (heap_alloc_new V _)).2
      have gF0 : ∀ (V : World), (V.alloc (.cells #[.slice none 0 0, .int .i64 0] 29)).frozen? ⟨V.heap.size, 0, none⟩ = false := fun V => one_free (heap_alloc_new V _) 0
      have gF1 : ∀ (V : World), (V.alloc (.cells #[.slice none 0 0, .int .i64 0] 29)).frozen? ⟨V.heap.size, 1, none⟩ = false := fun V => one_free (heap_alloc_new V _) 1
      clear TX
      go_region_held3 (fun Z => Z.cell? ⟨w4.heap.size + 1, 0, none⟩ = some (.slice (some ⟨w4.heap.size, 0, none⟩) 2 2) ∧ Z.cell? ⟨w4.heap.size + 1, 1, none⟩ = some (.int .i64 9)) (first | exact HC.out _ KD | exact HC.out _ (KD.trans (kept_al _ _)) | exact HC.out _ (KD.onl (only_set2 _ _ _ _) (by intro i hi; have := List.mem_singleton.1 hi; omega))) (first | (go_at_call 8; refine (ep_at 3 9 52776558133257 _ (by omega) (by omega) (by omega) (by omega) (by omega)).mono ?_; rintro e w' ⟨rfl, rfl⟩) | (go_at_call 15; refine (ep_add_eq (some ⟨w4.heap.size, 0, none⟩) 2 1 [17592186044416, 52776558133253] 9 52776558133257 _ (HXs.out _ (by first | exact KD | exact KD.trans (kept_al _ _))) (isW_of_mem (by decide)) (by omega) (by omega) (by decide +kernel) (by decide +kernel) (by decide +kernel) (by omega)).mono ?_; rintro e V ⟨aq, nq, cq, rfl, hSq, hfq, J⟩; have KE : Kept w15 V := (by first | exact KD.trans J | exact (KD.trans (kept_al _ _)).trans J); (first | (have hb := J.only.heap (heap_alloc_new w15.drew (.cells #[.slice none 0 0, .int .i64 0] 29)) (by simp); have hbs : w15.heap.size ≤ w15.drew.heap.size := KD.size; have r0 : V.cell? ⟨w15.heap.size, 0, none⟩ = some (.slice none 0 0) := (two_cells hb).1; have r1 : V.cell? ⟨w15.heap.size, 1, none⟩ = some (.int .i64 0) := (two_cells hb).2; have f0 : V.frozen? ⟨w15.heap.size, 0, none⟩ = false := one_free hb 0; have f1 : V.frozen? ⟨w15.heap.size, 1, none⟩ = false := one_free hb 1; have HBq := Lib.hid hb; clear hb) | skip); clear KD J; have KD := KE; clear KE; have HSq := Lib.hid hSq; clear hSq))
      all_goals (first | (go_wp2_with fail; done) | skip)
      all_goals (first | go_meet | (go_wp2_with fail; go_meet))
      all_goals (first | exact ⟨rfl, KD.trans (kept_al _ _), V.heap.size, aq, nq, cq, rfl, tb_box HSq.out⟩ | exact ⟨rfl, KD.onl (only_set2 _ w15.heap.size _ _) (by intro i hi; have := List.mem_singleton.1 hi; omega), w15.heap.size, aq, nq, cq, rfl, (two_cells (two_set HBq.out _ _)).1, (two_cells (two_set HBq.out _ _)).2, (only_set2 _ _ _ _).sl HSq.out (by intro y hy hm; have h1 := hfq y hy; simp at h1 hm; omega)⟩)
    case rest =>
      obtain ⟨rfl, kk, qq, aq, nq, cq, rfl, TQ⟩ := hcut
      generalize wc = w16 at *
      obtain rfl : 2 = nq := TQ.2.2.1
      replace TN := TN.kept kk
      replace TX := TX.kept kk
      replace TY := TY.kept kk
      replace TZ := TZ.kept kk
      replace TJ := TJ.kept kk
      replace TM := TM.kept kk
      replace K := K.trans kk
      clear kk
      go_wp2_with fail
      refine (ep_at 1 0 17592186044416 _ (by omega) (by omega) (by omega) (by omega) (by omega)).mono ?_
      rintro E w' ⟨rfl, rfl⟩
      go_wp2_with fail
      refine (ep_at 1 4 17592186044420 _ (by omega) (by omega) (by omega) (by omega) (by omega)).mono ?_
      rintro E w' ⟨rfl, rfl⟩
      have TB1 : TB ((w16.alloc (.cells #[.int .u64 17592186044416, .int .u64 17592186044420] 26 (0, 0))).alloc (.cells #[.slice (some ⟨w16.heap.size, 0, none⟩) 2 2, .int .i64 9] 29)) (w16.heap.size + 1) (some ⟨w16.heap.size, 0, none⟩) 2 2 [17592186044416, 17592186044420] 9 := tb_lit w16 [17592186044416, 17592186044420] 2 9 rfl (by omega)
      have kk : Kept w16 ((w16.alloc (.cells #[.int .u64 17592186044416, .int .u64 17592186044420] 26 (0, 0))).alloc (.cells #[.slice (some ⟨w16.heap.size, 0, none⟩) 2 2, .int .i64 9] 29)) := (kept_al w16 _).trans (kept_al _ _)
      replace TN := TN.kept kk
      replace TX := TX.kept kk
      replace TY := TY.kept kk
      replace TZ := TZ.kept kk
      replace TJ := TJ.kept kk
      replace TM := TM.kept kk
      replace TQ := TQ.kept kk
      replace K := K.trans kk
      clear kk
      have z_TN0 := TN.1
      have z_TN1 := TN.2.1
      have z_TX0 := TX.1
      have z_TX1 := TX.2.1
      have z_TY0 := TY.1
      have z_TY1 := TY.2.1
      have z_TZ0 := TZ.1
      have z_TZ1 := TZ.2.1
      have z_TJ0 := TJ.1
      have z_TJ1 := TJ.2.1
      have z_TM0 := TM.1
      have z_TM1 := TM.2.1
      have z_TQ0 := TQ.1
      have z_TQ1 := TQ.2.1
      have z_TB10 := TB1.1
      have z_TB11 := TB1.2.1
      go_wp2_with fail
      generalize World.alloc (World.alloc w16 _) _ = w17 at *
      clear z_TN0 z_TN1 z_TX0 z_TX1 z_TY0 z_TY1 z_TZ0 z_TZ1 z_TJ0 z_TJ1 z_TM0 z_TM1 z_TQ0 z_TQ1 z_TB10 z_TB11
      clear TN TJ TM TQ
      have v0 : decide (GoodT [17592186044416, 17592186044420] 9) = false := by decide +kernel
      have G := ep_good _ 2 2 [17592186044416, 17592186044420] 9 w17 TB1.2.2 (isW_of_mem (by decide))
      rw [v0] at G
      refine G.mono ?_
      rintro E w18 ⟨rfl, kk⟩
      clear G v0
      replace TX := TX.kept kk
      replace TY := TY.kept kk
      replace TZ := TZ.kept kk
      replace TB1 := TB1.kept kk
      replace K := K.trans kk
      clear kk
      have z_TX0 := TX.1
      have z_TX1 := TX.2.1
      have z_TY0 := TY.1
      have z_TY1 := TY.2.1
      have z_TZ0 := TZ.1
      have z_TZ1 := TZ.2.1
      have z_TB10 := TB1.1
      have z_TB11 := TB1.2.1
      go_wp2_with fail
      clear z_TX0 z_TX1 z_TY0 z_TY1 z_TZ0 z_TZ1 z_TB10 z_TB11
      have v0 : meetI [17592186044416, 17592186044420] 9 [17592186044416, 52776558133253] 9 = 0 := by decide +kernel
      have G := ep_meet _ _ 2 2 2 2 [17592186044416, 17592186044420] [17592186044416, 52776558133253] 9 9 w18 TB1.2.2 TX.2.2 (isW_of_mem (by decide)) (isW_of_mem (by decide))
      rw [v0] at G
      refine G.mono ?_
      rintro E w19 ⟨rfl, kk⟩
      clear G v0
      replace TX := TX.kept kk
      replace TY := TY.kept kk
      replace TZ := TZ.kept kk
      replace TB1 := TB1.kept kk
      replace K := K.trans kk
      clear kk
      have z_TX0 := TX.1
      have z_TX1 := TX.2.1
      have z_TY0 := TY.1
      have z_TY1 := TY.2.1
      have z_TZ0 := TZ.1
      have z_TZ1 := TZ.2.1
      have z_TB10 := TB1.1
      have z_TB11 := TB1.2.1
      go_wp2_with fail
      clear z_TX0 z_TX1 z_TY0 z_TY1 z_TZ0 z_TZ1 z_TB10 z_TB11
      have v0 : meetI [17592186044416, 52776558133253] 9 [17592186044416, 35184372088836, 70368744177670] 8 = 4 := by decide +kernel
      have G := ep_meet _ _ 2 2 3 3 [17592186044416, 52776558133253] [17592186044416, 35184372088836, 70368744177670] 9 8 w19 TX.2.2 TY.2.2 (isW_of_mem (by decide)) (isW_of_mem (by decide))
      rw [v0] at G
      refine G.mono ?_
      rintro E w20 ⟨rfl, kk⟩
      clear G v0
      replace TX := TX.kept kk
      replace TY := TY.kept kk
      replace TZ := TZ.kept kk
      replace TB1 := TB1.kept kk
      replace K := K.trans kk
      clear kk
      have z_TX0 := TX.1
      have z_TX1 := TX.2.1
      have z_TY0 := TY.1
      have z_TY1 := TY.2.1
      have z_TZ0 := TZ.1
      have z_TZ1 := TZ.2.1
      have z_TB10 := TB1.1
      have z_TB11 := TB1.2.1
      go_wp2_with fail
      clear z_TX0 z_TX1 z_TY0 z_TY1 z_TZ0 z_TZ1 z_TB10 z_TB11
      have v0 : meetI [17592186044416, 35184372088836, 70368744177670] 8 [17592186044416, 52776558133253] 9 = 4 := by decide +kernel
      have G := ep_meet _ _ 3 3 2 2 [17592186044416, 35184372088836, 70368744177670] [17592186044416, 52776558133253] 8 9 w20 TY.2.2 TX.2.2 (isW_of_mem (by decide)) (isW_of_mem (by decide))
      rw [v0] at G
      refine G.mono ?_
      rintro E w21 ⟨rfl, kk⟩
      clear G v0
      replace TX := TX.kept kk
      replace TY := TY.kept kk
      replace TZ := TZ.kept kk
      replace TB1 := TB1.kept kk
      replace K := K.trans kk
      clear kk
      have z_TX0 := TX.1
      have z_TX1 := TX.2.1
      have z_TY0 := TY.1
      have z_TY1 := TY.2.1
      have z_TZ0 := TZ.1
      have z_TZ1 := TZ.2.1
      have z_TB10 := TB1.1
      have z_TB11 := TB1.2.1
      go_wp2_with fail
      clear z_TX0 z_TX1 z_TY0 z_TY1 z_TZ0 z_TZ1 z_TB10 z_TB11
      have v0 : meetI [17592186044416, 52776558133253] 9 [17592186044416, 52776558133253] 9 = 9 := by decide +kernel
      have G := ep_meet _ _ 2 2 2 2 [17592186044416, 52776558133253] [17592186044416, 52776558133253] 9 9 w21 TX.2.2 TX.2.2 (isW_of_mem (by decide)) (isW_of_mem (by decide))
      rw [v0] at G
      refine G.mono ?_
      rintro E w22 ⟨rfl, kk⟩
      clear G v0
      replace TX := TX.kept kk
      replace TY := TY.kept kk
      replace TZ := TZ.kept kk
      replace TB1 := TB1.kept kk
      replace K := K.trans kk
      clear kk
      have z_TX0 := TX.1
      have z_TX1 := TX.2.1
      have z_TY0 := TY.1
      have z_TY1 := TY.2.1
      have z_TZ0 := TZ.1
      have z_TZ1 := TZ.2.1
      have z_TB10 := TB1.1
      have z_TB11 := TB1.2.1
      go_wp2_with fail
      clear z_TX0 z_TX1 z_TY0 z_TY1 z_TZ0 z_TZ1 z_TB10 z_TB11
      have v0 : meetI [17592186044416, 52776558133253] 9 [35184372088832] 3 = 0 := by decide +kernel
      have G := ep_meet _ _ 2 2 1 1 [17592186044416, 52776558133253] [35184372088832] 9 3 w22 TX.2.2 TZ.2.2 (isW_of_mem (by decide)) (isW_of_mem (by decide))
      rw [v0] at G
      refine G.mono ?_
      rintro E w23 ⟨rfl, kk⟩
      clear G v0
      replace TX := TX.kept kk
      replace TY := TY.kept kk
      replace TZ := TZ.kept kk
      replace TB1 := TB1.kept kk
      replace K := K.trans kk
      clear kk
      have z_TX0 := TX.1
      have z_TX1 := TX.2.1
      have z_TY0 := TY.1
      have z_TY1 := TY.2.1
      have z_TZ0 := TZ.1
      have z_TZ1 := TZ.2.1
      have z_TB10 := TB1.1
      have z_TB11 := TB1.2.1
      go_wp2_with fail
      clear z_TX0 z_TX1 z_TY0 z_TY1 z_TZ0 z_TZ1 z_TB10 z_TB11
      have v0 : meetI [] 7 [] 7 = 7 := by decide +kernel
      have G := ep_meet _ _ 0 0 0 0 [] [] 7 7 w23 (sl_nil .u64 _) (sl_nil .u64 _) (isW_of_mem (by decide)) (isW_of_mem (by decide))
      rw [v0] at G
      refine G.mono ?_
      rintro E w24 ⟨rfl, kk⟩
      clear G v0
      replace TX := TX.kept kk
      replace TY := TY.kept kk
      replace TZ := TZ.kept kk
      replace TB1 := TB1.kept kk
      replace K := K.trans kk
      clear kk
      have z_TX0 := TX.1
      have z_TX1 := TX.2.1
      have z_TY0 := TY.1
      have z_TY1 := TY.2.1
      have z_TZ0 := TZ.1
      have z_TZ1 := TZ.2.1
      have z_TB10 := TB1.1
      have z_TB11 := TB1.2.1
      go_wp2_with fail
      clear z_TX0 z_TX1 z_TY0 z_TY1 z_TZ0 z_TZ1 z_TB10 z_TB11
      have v0 : meetI [] 7 [17592186044416, 52776558133253] 9 = 0 := by decide +kernel
      have G := ep_meet _ _ 0 0 2 2 [] [17592186044416, 52776558133253] 7 9 w24 (sl_nil .u64 _) TX.2.2 (isW_of_mem (by decide)) (isW_of_mem (by decide))
      rw [v0] at G
      refine G.mono ?_
      rintro E w25 ⟨rfl, kk⟩
      clear G v0
      replace K := K.trans kk
      go_wp2_with fail
      go_ret
      exact ⟨rfl, K⟩

end Go.Proofs.Ytfblkdecbjplbaa
