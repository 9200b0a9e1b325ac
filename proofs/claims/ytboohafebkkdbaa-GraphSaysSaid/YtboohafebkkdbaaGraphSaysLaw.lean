/- Graphs: every result is the document's. -/
import Derived.Test.YtboohafebkkdbaaGrTy
import Derived.Test.YtboohafebkkdbaaGrR4
import Derived.Test.YtboohafebkkdbaaGrR6
set_option linter.unusedVariables false
set_option linter.unusedSimpArgs false
namespace Go.Proofs.Ytboohafebkkdbaa
open Go.RowKit
theorem slE_far {w w' : World} {a a' : Option Addr} {n c n' c' p : Nat} {x : Int} {T : TypeId} {E : List Ed} (h : SlE w a n c E) (hp : w.heap[p]? = some (.cells #[.int .i64 x, .slice a' n' c'] T (0, 0))) (o : Only [p] w w') : SlE w' a n c E := by
  refine ⟨h.1, h.2.1, h.2.2.1, fun h0 => ?_⟩
  obtain ⟨b, of, e, hb, hc⟩ := h.2.2.2 h0
  have hbp : b ≠ p := by
    rintro rfl
    obtain ⟨y, hy⟩ : ∃ y, E[0]? = some y := ⟨_, List.getElem?_eq_getElem (by rw [h.1]; exact h0)⟩
    obtain ⟨g0, g1⟩ := edVs_at E 0 y hy
    have c1 := hc _ _ g1
    rw [cell_of_row _ _ _ _ _ _ hp] at c1
    match of, c1 with
    | 0, c1 => simp at c1
    | of + 1, c1 => simp at c1
  refine ⟨b, of, e, Nat.lt_of_lt_of_le hb o.size, fun j u hu => ?_⟩
  rw [o.cell (p := ⟨b, of + j, none⟩) hb (by simpa using hbp)]
  exact hc j u hu
theorem set2 {w : World} {p : Nat} {x y : Value} {T : TypeId} (h : w.heap[p]? = some (.cells #[x, y] T (0, 0))) (a b : Value) : ((w.setCell ⟨p, 0, none⟩ a).setCell ⟨p, 1, none⟩ b).heap[p]? = some (.cells #[a, b] T (0, 0)) ∧ Only [p] w ((w.setCell ⟨p, 0, none⟩ a).setCell ⟨p, 1, none⟩ b) :=
  ⟨at_set (at_set h 0 a) 1 b, ((Only.refl [p] w).setCell (fun _ => by simp) a).setCell (fun _ => by simp) b⟩
set_option maxRecDepth 100000 in
set_option maxHeartbeats 16000000 in
theorem graphSays_law (v0 v1 : Value) (x0 : TyGraph.den) (x1 : Int) (w : World) (w0 : RepV w TyGraph v0 x0) (w1 : RepV w (.int .i64) v1 x1) :
    Calls Try.prog 6 #[v0, v1] w fun e w' => e = .returned (.bool true) ∧ Below w.heap.size w w' := by
  obtain ⟨N, s, m, c, E, rfl, hE, hNb⟩ := repV_graph w0
  obtain ⟨rfl, hw1⟩ := repV_int w1
  have hl := hE.1
  have hnc := hE.2.1
  have hB0 := heap_alloc_new w (.cells #[.int .i64 N, .slice s m c] 24)
  have K0 := kept_al w (.cells #[.int .i64 N, .slice s m c] 24)
  have HE := Lib.hid hE
  have HAw := Lib.hid (awake10 (w.alloc (.cells #[.int .i64 N, .slice s m c] 24)))
  have HK0 := Lib.hid K0
  have HB := Lib.hid hB0
  clear w0 w1 hw1 hE K0 hB0
  go_enter Try.func6, Try.ntmps6
  go_wp2_with fail
  generalize World.alloc w _ = X0 at *
  generalize hbx : w.heap.size = bx at *
  refine HAw.out.mono ?_
  rintro E1 V1 ⟨rfl, hK1⟩
  have HB1 := Lib.hid (hK1.only.heap HB.out (by simp))
  have HK1 := Lib.hid (HK0.out.trans hK1)
  have b0 := at_cell HB1.out 0 _ rfl
  have b1 := at_cell HB1.out 1 _ rfl
  clear hK1 HAw
  by_cases hm : m ≤ 60
  · have g1 : ¬ (60 : Int) < m := by omega
    have HOw := Lib.hid (law_own N (HE.out.kept HK1.out) (by omega))
    go_wp2_with fail
    refine HOw.out.mono ?_
    rintro E2 V2 ⟨oa, oc, rfl, hSo, hK2⟩
    have KB := kept_al V2 (.cells #[.int .i64 N, .slice oa m oc] 40)
    have HBO := heap_alloc_new V2 (.cells #[.int .i64 N, .slice oa m oc] 40)
    have HSO := Lib.hid (hSo.kept KB)
    have HKA := Lib.hid ((HK1.out.trans hK2).trans KB)
    have HBG := Lib.hid ((hK2.trans KB).only.heap HB1.out (by simp))
    have HBO := Lib.hid HBO
    clear hSo hK2 KB HOw b0 b1
    --REGION6
    have hbo : ∃ bo, V2.heap.size = bo := ⟨_, rfl⟩
    obtain ⟨bo, hbo⟩ := hbo
    rw [hbo] at HBO
    go_upto_region 6 with fail
    generalize World.alloc V2 _ = V3 at *
    try rw [hbo]
    have HS : Hid (∀ Z, Kept V3 Z → (Z.cell? ⟨bx, 0, none⟩ = some (.int .i64 N) ∧ Z.cell? ⟨bx, 1, none⟩ = some (.slice s m c)) ∧ Z.cell? ⟨bo, 0, none⟩ = some (.int .i64 N) ∧ Z.cell? ⟨bo, 1, none⟩ = some (.slice oa m oc)) := fun Z k => ⟨⟨k.cel (at_cell HBG.out 0 _ rfl), k.cel (at_cell HBG.out 1 _ rfl)⟩, k.cel (at_cell HBO.out 0 _ rfl), k.cel (at_cell HBO.out 1 _ rfl)⟩
    have HSh : Hid (∀ Z, Kept V3 Z → Calls Try.prog 11 #[.agg #[.int .i64 N, .slice s m c]] Z fun e w' => ∃ (a : Option Addr) (k c' : Nat), e = .returned (.agg #[.int .i64 N, .slice a k c']) ∧ SlE w' a k c' (shortL N E) ∧ Kept Z w' ∧ k ≤ m) := fun Z hZ => g_short N (HE.out.kept (HKA.out.trans hZ)) (by omega)
    have HRs : Hid (∀ Z, Kept V3 Z → Calls Try.prog 18 #[.agg #[.int .i64 N, .slice oa m oc]] Z fun e w' => ∃ (a : Option Addr) (k c' : Nat), e = .returned (.agg #[.int .i64 N, .slice a k c']) ∧ SlE w' a k c' (shortL N E) ∧ Kept Z w' ∧ k ≤ m) := fun Z hZ => r_short N (HSO.out.kept hZ) (by omega)
    clear hbo
    go_cut [6, 7] from 16 to 19 (fun p q wx => ∃ (pa pb : Nat) (ga : Option Addr) (gk gc : Nat) (ra : Option Addr) (rk rc : Nat), p = .pointer (some ⟨pa, 0, none⟩) ∧ q = .pointer (some ⟨pb, 0, none⟩) ∧ wx.heap[pa]? = some (.cells #[.int .i64 N, .slice ga gk gc] 24 (0, 0)) ∧ wx.heap[pb]? = some (.cells #[.int .i64 N, .slice ra rk rc] 40 (0, 0)) ∧ SlE wx ga gk gc (shortL N E) ∧ SlE wx ra rk rc (shortL N E) ∧ gk ≤ m ∧ rk ≤ m ∧ Kept V3 wx)
    case first =>
      have KD : Kept V3 V3.drew := (Kept.refl _).dr ⟨1, rfl⟩
      refine wp_region_held_drew (S := (fun Z => (Z.cell? ⟨bx, 0, none⟩ = some (.int .i64 N) ∧ Z.cell? ⟨bx, 1, none⟩ = some (.slice s m c)) ∧ Z.cell? ⟨bo, 0, none⟩ = some (.int .i64 N) ∧ Z.cell? ⟨bo, 1, none⟩ = some (.slice oa m oc))) (by kernel_rfl) (HS.out _ KD) (fun hHeld => ?_)
      generalize V3.drew = Z0 at *
      apply wpAnyH_take (i := 0)
      case hi => (simp only [List.getElem?_toArray, List.getElem?_cons_succ, List.getElem?_cons_zero]; rfl)
      case hs => kernel_rfl
      case hf => kernel_rfl
      case hr => kernel_rfl
      case hQ => exact fun _ _ _ h => h
      case hy => (refine Or.inl ⟨by rfl, ?_⟩; (intro w' hSw; (try dsimp only at hSw); go_simp) <;> with_reducible rfl)
      case hS => assumption
      try simp only [Act.put, List.setIfInBounds_toArray, List.set_cons_zero, List.set_cons_succ]
      apply wpAnyH_take (i := 2)
      case hi => (simp only [List.getElem?_toArray, List.getElem?_cons_succ, List.getElem?_cons_zero]; rfl)
      case hs => kernel_rfl
      case hf => kernel_rfl
      case hr => kernel_rfl
      case hQ => exact fun _ _ _ h => h
      case hy => (refine Or.inl ⟨by rfl, ?_⟩; (intro w' hSw; (try dsimp only at hSw); go_simp) <;> with_reducible rfl)
      case hS => assumption
      try simp only [Act.put, List.setIfInBounds_toArray, List.set_cons_zero, List.set_cons_succ]
      refine wpAnyH_ready (rs := [1, 4, 5]) (by kernel_rfl) (by simp) ?_
      apply AllReadyH.cons
      case ho => (simp only [List.getElem?_toArray, List.getElem?_cons_succ, List.getElem?_cons_zero]; rfl)
      case hs =>
        apply AllReadyH.cons
        case ho => (simp only [List.getElem?_toArray, List.getElem?_cons_succ, List.getElem?_cons_zero]; rfl)
        case hs =>
          apply AllReadyH.cons
          case ho => (simp only [List.getElem?_toArray, List.getElem?_cons_succ, List.getElem?_cons_zero]; rfl)
          case hs => exact AllReadyH.nil
          intro K hK
          go_simp
          have J := kept_al Z0 (.cells #[.int .i64 0, .slice none 0 0] 40)
          have FB := Lib.hid (heap_alloc_new Z0 (.cells #[.int .i64 0, .slice none 0 0] 40))
          have hz := KD.size
          replace KD := KD.trans J
          generalize World.alloc Z0 _ = Z1 at *
          obtain ⟨pb, hpb⟩ : ∃ p, Z0.heap.size = p := ⟨_, rfl⟩
          rw [hpb] at FB
          try rw [hpb]
          have lpb : V3.heap.size ≤ pb := by omega
          clear J hz hpb
          refine hK.out _ _ (HS.out _ KD) (fun hHeld => ?_)
          clear hK K
          try simp only [Act.put, List.setIfInBounds_toArray, List.set_cons_zero, List.set_cons_succ]
          refine wpAnyH_ready (rs := [1, 4]) (by kernel_rfl) (by simp) ?_
          apply AllReadyH.cons
          case ho => (simp only [List.getElem?_toArray, List.getElem?_cons_succ, List.getElem?_cons_zero]; rfl)
          case hs =>
            apply AllReadyH.cons
            case ho => (simp only [List.getElem?_toArray, List.getElem?_cons_succ, List.getElem?_cons_zero]; rfl)
            case hs => exact AllReadyH.nil
            intro K hK
            go_simp
            have hp0 := lt_heap FB.out
            have J := kept_al Z1 (.cells #[.int .i64 0, .slice none 0 0] 24)
            have FA := Lib.hid (heap_alloc_new Z1 (.cells #[.int .i64 0, .slice none 0 0] 24))
            have hz := KD.size
            replace FB := Lib.hid (J.only.heap FB.out (by simp))
            replace KD := KD.trans J
            generalize World.alloc Z1 _ = Z2 at *
            obtain ⟨pa, hpa⟩ : ∃ p, Z1.heap.size = p := ⟨_, rfl⟩
            rw [hpa] at FA
            try rw [hpa]
            have lpa : V3.heap.size ≤ pa := by omega
            have hpp : pb < pa := by omega
            clear J hz hpa
            refine hK.out _ _ (HS.out _ KD) (fun hHeld => ?_)
            clear hK K
            try simp only [Act.put, List.setIfInBounds_toArray, List.set_cons_zero, List.set_cons_succ]
            refine wpAnyH_ready (rs := [1]) (by kernel_rfl) (by simp) ?_
            apply AllReadyH.cons
            case ho => (simp only [List.getElem?_toArray, List.getElem?_cons_succ, List.getElem?_cons_zero]; rfl)
            case hs => exact AllReadyH.nil
            intro K hK
            go_simp
            (go_at_call 11; refine (HSh.out _ KD).mono ?_; rintro E5 Z3 ⟨ga, gk, gc, rfl, hSg, J, hgk⟩)
            have HSg := Lib.hid hSg
            clear hSg
            replace FA := Lib.hid (J.only.heap FA.out (by simp))
            replace FB := Lib.hid (J.only.heap FB.out (by simp))
            replace KD := KD.trans J
            clear J
            refine hK.out _ _ (HS.out _ KD) (fun hHeld => ?_)
            clear hK K
            try simp only [Act.put, List.setIfInBounds_toArray, List.set_cons_zero, List.set_cons_succ]
            refine wpAnyH_ready (rs := [3]) (by kernel_rfl) (by simp) ?_
            apply AllReadyH.cons
            case ho => (simp only [List.getElem?_toArray, List.getElem?_cons_succ, List.getElem?_cons_zero]; rfl)
            case hs => exact AllReadyH.nil
            intro K hK
            go_simp
            (go_at_call 18; refine (HRs.out _ KD).mono ?_; rintro E6 Z4 ⟨ra, rk, rc, rfl, hSr, J, hrk⟩)
            have HSr := Lib.hid hSr
            clear hSr
            replace FA := Lib.hid (J.only.heap FA.out (by simp))
            replace FB := Lib.hid (J.only.heap FB.out (by simp))
            replace HSg := Lib.hid (HSg.out.kept J)
            replace KD := KD.trans J
            clear J
            refine hK.out _ _ (HS.out _ KD) (fun hHeld => ?_)
            clear hK K
            try simp only [Act.put, List.setIfInBounds_toArray, List.set_cons_zero, List.set_cons_succ]
            refine wpAnyH_ready (rs := [6]) (by kernel_rfl) (by simp) ?_
            apply AllReadyH.cons
            case ho => (simp only [List.getElem?_toArray, List.getElem?_cons_succ, List.getElem?_cons_zero]; rfl)
            case hs => exact AllReadyH.nil
            intro K hK
            have e0 := at_cell FA.out 0 _ rfl
            have e1 := at_cell FA.out 1 _ rfl
            have f0 := one_free FA.out 0
            have f1 := one_free FA.out 1
            go_simp
            obtain ⟨FA2, J⟩ := set2 FA.out (.int .i64 N) (.slice ga gk gc)
            have K2 := KD.onl J (by simp; omega)
            replace FB := Lib.hid (J.heap FB.out (by simp; omega))
            replace HSg := Lib.hid (slE_far HSg.out FA.out J)
            replace HSr := Lib.hid (slE_far HSr.out FA.out J)
            generalize World.setCell (World.setCell Z4 _ _) _ _ = Z5 at *
            replace FA := Lib.hid FA2
            replace KD := K2
            clear e0 e1 f0 f1 FA2 J K2
            refine hK.out _ _ (HS.out _ KD) (fun hHeld => ?_)
            clear hK K
            try simp only [Act.put, List.setIfInBounds_toArray, List.set_cons_zero, List.set_cons_succ]
            refine wpAnyH_ready (rs := [7]) (by kernel_rfl) (by simp) ?_
            apply AllReadyH.cons
            case ho => (simp only [List.getElem?_toArray, List.getElem?_cons_succ, List.getElem?_cons_zero]; rfl)
            case hs => exact AllReadyH.nil
            intro K hK
            have e0 := at_cell FB.out 0 _ rfl
            have e1 := at_cell FB.out 1 _ rfl
            have f0 := one_free FB.out 0
            have f1 := one_free FB.out 1
            go_simp
            obtain ⟨FB2, J⟩ := set2 FB.out (.int .i64 N) (.slice ra rk rc)
            have K2 := KD.onl J (by simp; omega)
            replace FA := Lib.hid (J.heap FA.out (by simp; omega))
            replace HSg := Lib.hid (slE_far HSg.out FB.out J)
            replace HSr := Lib.hid (slE_far HSr.out FB.out J)
            generalize World.setCell (World.setCell Z5 _ _) _ _ = Z6 at *
            replace FB := Lib.hid FB2
            replace KD := K2
            clear e0 e1 f0 f1 FB2 J K2
            refine hK.out _ _ (HS.out _ KD) (fun hHeld => ?_)
            clear hK K
            try simp only [Act.put, List.setIfInBounds_toArray, List.set_cons_zero, List.set_cons_succ]
            refine wpAnyH_done (by kernel_rfl) ?_ _
            go_wp2_with fail
            go_meet
            exact ⟨pa, pb, ga, gk, gc, ra, rk, rc, rfl, rfl, FA.out, FB.out, HSg.out, HSr.out, hgk, hrk, KD⟩
          intro K hK
          go_simp
          (go_at_call 11; refine (HSh.out _ KD).mono ?_; rintro E5 Z2 ⟨ga, gk, gc, rfl, hSg, J, hgk⟩)
          have HSg := Lib.hid hSg
          clear hSg
          replace FB := Lib.hid (J.only.heap FB.out (by simp))
          replace KD := KD.trans J
          clear J
          refine hK.out _ _ (HS.out _ KD) (fun hHeld => ?_)
          clear hK K
          try simp only [Act.put, List.setIfInBounds_toArray, List.set_cons_zero, List.set_cons_succ]
          refine wpAnyH_ready (rs := [3, 4]) (by kernel_rfl) (by simp) ?_
          apply AllReadyH.cons
          case ho => (simp only [List.getElem?_toArray, List.getElem?_cons_succ, List.getElem?_cons_zero]; rfl)
          case hs =>
            apply AllReadyH.cons
            case ho => (simp only [List.getElem?_toArray, List.getElem?_cons_succ, List.getElem?_cons_zero]; rfl)
            case hs => exact AllReadyH.nil
            intro K hK
            go_simp
            have hp0 := lt_heap FB.out
            have J := kept_al Z2 (.cells #[.int .i64 0, .slice none 0 0] 24)
            have FA := Lib.hid (heap_alloc_new Z2 (.cells #[.int .i64 0, .slice none 0 0] 24))
            have hz := KD.size
            replace FB := Lib.hid (J.only.heap FB.out (by simp))
            replace HSg := Lib.hid (HSg.out.kept J)
            replace KD := KD.trans J
            generalize World.alloc Z2 _ = Z3 at *
            obtain ⟨pa, hpa⟩ : ∃ p, Z2.heap.size = p := ⟨_, rfl⟩
            rw [hpa] at FA
            try rw [hpa]
            have lpa : V3.heap.size ≤ pa := by omega
            have hpp : pb < pa := by omega
            clear J hz hpa
            refine hK.out _ _ (HS.out _ KD) (fun hHeld => ?_)
            clear hK K
            try simp only [Act.put, List.setIfInBounds_toArray, List.set_cons_zero, List.set_cons_succ]
            refine wpAnyH_ready (rs := [3]) (by kernel_rfl) (by simp) ?_
            apply AllReadyH.cons
            case ho => (simp only [List.getElem?_toArray, List.getElem?_cons_succ, List.getElem?_cons_zero]; rfl)
            case hs => exact AllReadyH.nil
            intro K hK
            go_simp
            (go_at_call 18; refine (HRs.out _ KD).mono ?_; rintro E6 Z4 ⟨ra, rk, rc, rfl, hSr, J, hrk⟩)
            have HSr := Lib.hid hSr
            clear hSr
            replace FA := Lib.hid (J.only.heap FA.out (by simp))
            replace FB := Lib.hid (J.only.heap FB.out (by simp))
            replace HSg := Lib.hid (HSg.out.kept J)
            replace KD := KD.trans J
            clear J
            refine hK.out _ _ (HS.out _ KD) (fun hHeld => ?_)
            clear hK K
            try simp only [Act.put, List.setIfInBounds_toArray, List.set_cons_zero, List.set_cons_succ]
            refine wpAnyH_ready (rs := [6]) (by kernel_rfl) (by simp) ?_
            apply AllReadyH.cons
            case ho => (simp only [List.getElem?_toArray, List.getElem?_cons_succ, List.getElem?_cons_zero]; rfl)
            case hs => exact AllReadyH.nil
            intro K hK
            have e0 := at_cell FA.out 0 _ rfl
            have e1 := at_cell FA.out 1 _ rfl
            have f0 := one_free FA.out 0
            have f1 := one_free FA.out 1
            go_simp
            obtain ⟨FA2, J⟩ := set2 FA.out (.int .i64 N) (.slice ga gk gc)
            have K2 := KD.onl J (by simp; omega)
            replace FB := Lib.hid (J.heap FB.out (by simp; omega))
            replace HSg := Lib.hid (slE_far HSg.out FA.out J)
            replace HSr := Lib.hid (slE_far HSr.out FA.out J)
            generalize World.setCell (World.setCell Z4 _ _) _ _ = Z5 at *
            replace FA := Lib.hid FA2
            replace KD := K2
            clear e0 e1 f0 f1 FA2 J K2
            refine hK.out _ _ (HS.out _ KD) (fun hHeld => ?_)
            clear hK K
            try simp only [Act.put, List.setIfInBounds_toArray, List.set_cons_zero, List.set_cons_succ]
            refine wpAnyH_ready (rs := [7]) (by kernel_rfl) (by simp) ?_
            apply AllReadyH.cons
            case ho => (simp only [List.getElem?_toArray, List.getElem?_cons_succ, List.getElem?_cons_zero]; rfl)
            case hs => exact AllReadyH.nil
            intro K hK
            have e0 := at_cell FB.out 0 _ rfl
            have e1 := at_cell FB.out 1 _ rfl
            have f0 := one_free FB.out 0
            have f1 := one_free FB.out 1
            go_simp
            obtain ⟨FB2, J⟩ := set2 FB.out (.int .i64 N) (.slice ra rk rc)
            have K2 := KD.onl J (by simp; omega)
            replace FA := Lib.hid (J.heap FA.out (by simp; omega))
            replace HSg := Lib.hid (slE_far HSg.out FB.out J)
            replace HSr := Lib.hid (slE_far HSr.out FB.out J)
            generalize World.setCell (World.setCell Z5 _ _) _ _ = Z6 at *
            replace FB := Lib.hid FB2
            replace KD := K2
            clear e0 e1 f0 f1 FB2 J K2
            refine hK.out _ _ (HS.out _ KD) (fun hHeld => ?_)
            clear hK K
            try simp only [Act.put, List.setIfInBounds_toArray, List.set_cons_zero, List.set_cons_succ]
            refine wpAnyH_done (by kernel_rfl) ?_ _
            go_wp2_with fail
            go_meet
            exact ⟨pa, pb, ga, gk, gc, ra, rk, rc, rfl, rfl, FA.out, FB.out, HSg.out, HSr.out, hgk, hrk, KD⟩
          intro K hK
          go_simp
          (go_at_call 18; refine (HRs.out _ KD).mono ?_; rintro E6 Z3 ⟨ra, rk, rc, rfl, hSr, J, hrk⟩)
          have HSr := Lib.hid hSr
          clear hSr
          replace FB := Lib.hid (J.only.heap FB.out (by simp))
          replace HSg := Lib.hid (HSg.out.kept J)
          replace KD := KD.trans J
          clear J
          refine hK.out _ _ (HS.out _ KD) (fun hHeld => ?_)
          clear hK K
          try simp only [Act.put, List.setIfInBounds_toArray, List.set_cons_zero, List.set_cons_succ]
          refine wpAnyH_ready (rs := [4]) (by kernel_rfl) (by simp) ?_
          apply AllReadyH.cons
          case ho => (simp only [List.getElem?_toArray, List.getElem?_cons_succ, List.getElem?_cons_zero]; rfl)
          case hs => exact AllReadyH.nil
          intro K hK
          go_simp
          have hp0 := lt_heap FB.out
          have J := kept_al Z3 (.cells #[.int .i64 0, .slice none 0 0] 24)
          have FA := Lib.hid (heap_alloc_new Z3 (.cells #[.int .i64 0, .slice none 0 0] 24))
          have hz := KD.size
          replace FB := Lib.hid (J.only.heap FB.out (by simp))
          replace HSg := Lib.hid (HSg.out.kept J)
          replace HSr := Lib.hid (HSr.out.kept J)
          replace KD := KD.trans J
          generalize World.alloc Z3 _ = Z4 at *
          obtain ⟨pa, hpa⟩ : ∃ p, Z3.heap.size = p := ⟨_, rfl⟩
          rw [hpa] at FA
          try rw [hpa]
          have lpa : V3.heap.size ≤ pa := by omega
          have hpp : pb < pa := by omega
          clear J hz hpa
          refine hK.out _ _ (HS.out _ KD) (fun hHeld => ?_)
          clear hK K
          try simp only [Act.put, List.setIfInBounds_toArray, List.set_cons_zero, List.set_cons_succ]
          refine wpAnyH_ready (rs := [6]) (by kernel_rfl) (by simp) ?_
          apply AllReadyH.cons
          case ho => (simp only [List.getElem?_toArray, List.getElem?_cons_succ, List.getElem?_cons_zero]; rfl)
          case hs => exact AllReadyH.nil
          intro K hK
          have e0 := at_cell FA.out 0 _ rfl
          have e1 := at_cell FA.out 1 _ rfl
          have f0 := one_free FA.out 0
          have f1 := one_free FA.out 1
          go_simp
          obtain ⟨FA2, J⟩ := set2 FA.out (.int .i64 N) (.slice ga gk gc)
          have K2 := KD.onl J (by simp; omega)
          replace FB := Lib.hid (J.heap FB.out (by simp; omega))
          replace HSg := Lib.hid (slE_far HSg.out FA.out J)
          replace HSr := Lib.hid (slE_far HSr.out FA.out J)
          generalize World.setCell (World.setCell Z4 _ _) _ _ = Z5 at *
          replace FA := Lib.hid FA2
          replace KD := K2
          clear e0 e1 f0 f1 FA2 J K2
          refine hK.out _ _ (HS.out _ KD) (fun hHeld => ?_)
          clear hK K
          try simp only [Act.put, List.setIfInBounds_toArray, List.set_cons_zero, List.set_cons_succ]
          refine wpAnyH_ready (rs := [7]) (by kernel_rfl) (by simp) ?_
          apply AllReadyH.cons
          case ho => (simp only [List.getElem?_toArray, List.getElem?_cons_succ, List.getElem?_cons_zero]; rfl)
          case hs => exact AllReadyH.nil
          intro K hK
          have e0 := at_cell FB.out 0 _ rfl
          have e1 := at_cell FB.out 1 _ rfl
          have f0 := one_free FB.out 0
          have f1 := one_free FB.out 1
          go_simp
          obtain ⟨FB2, J⟩ := set2 FB.out (.int .i64 N) (.slice ra rk rc)
          have K2 := KD.onl J (by simp; omega)
          replace FA := Lib.hid (J.heap FA.out (by simp; omega))
          replace HSg := Lib.hid (slE_far HSg.out FB.out J)
          replace HSr := Lib.hid (slE_far HSr.out FB.out J)
          generalize World.setCell (World.setCell Z5 _ _) _ _ = Z6 at *
          replace FB := Lib.hid FB2
          replace KD := K2
          clear e0 e1 f0 f1 FB2 J K2
          refine hK.out _ _ (HS.out _ KD) (fun hHeld => ?_)
          clear hK K
          try simp only [Act.put, List.setIfInBounds_toArray, List.set_cons_zero, List.set_cons_succ]
          refine wpAnyH_done (by kernel_rfl) ?_ _
          go_wp2_with fail
          go_meet
          exact ⟨pa, pb, ga, gk, gc, ra, rk, rc, rfl, rfl, FA.out, FB.out, HSg.out, HSr.out, hgk, hrk, KD⟩
        intro K hK
        go_simp
        have J := kept_al Z0 (.cells #[.int .i64 0, .slice none 0 0] 24)
        have FA := Lib.hid (heap_alloc_new Z0 (.cells #[.int .i64 0, .slice none 0 0] 24))
        have hz := KD.size
        replace KD := KD.trans J
        generalize World.alloc Z0 _ = Z1 at *
        obtain ⟨pa, hpa⟩ : ∃ p, Z0.heap.size = p := ⟨_, rfl⟩
        rw [hpa] at FA
        try rw [hpa]
        have lpa : V3.heap.size ≤ pa := by omega
        clear J hz hpa
        refine hK.out _ _ (HS.out _ KD) (fun hHeld => ?_)
        clear hK K
        try simp only [Act.put, List.setIfInBounds_toArray, List.set_cons_zero, List.set_cons_succ]
        refine wpAnyH_ready (rs := [1, 5]) (by kernel_rfl) (by simp) ?_
        apply AllReadyH.cons
        case ho => (simp only [List.getElem?_toArray, List.getElem?_cons_succ, List.getElem?_cons_zero]; rfl)
        case hs =>
          apply AllReadyH.cons
          case ho => (simp only [List.getElem?_toArray, List.getElem?_cons_succ, List.getElem?_cons_zero]; rfl)
          case hs => exact AllReadyH.nil
          intro K hK
          go_simp
          have hp0 := lt_heap FA.out
          have J := kept_al Z1 (.cells #[.int .i64 0, .slice none 0 0] 40)
          have FB := Lib.hid (heap_alloc_new Z1 (.cells #[.int .i64 0, .slice none 0 0] 40))
          have hz := KD.size
          replace FA := Lib.hid (J.only.heap FA.out (by simp))
          replace KD := KD.trans J
          generalize World.alloc Z1 _ = Z2 at *
          obtain ⟨pb, hpb⟩ : ∃ p, Z1.heap.size = p := ⟨_, rfl⟩
          rw [hpb] at FB
          try rw [hpb]
          have lpb : V3.heap.size ≤ pb := by omega
          have hpp : pa < pb := by omega
          clear J hz hpb
          refine hK.out _ _ (HS.out _ KD) (fun hHeld => ?_)
          clear hK K
          try simp only [Act.put, List.setIfInBounds_toArray, List.set_cons_zero, List.set_cons_succ]
          refine wpAnyH_ready (rs := [1]) (by kernel_rfl) (by simp) ?_
          apply AllReadyH.cons
          case ho => (simp only [List.getElem?_toArray, List.getElem?_cons_succ, List.getElem?_cons_zero]; rfl)
          case hs => exact AllReadyH.nil
          intro K hK
          go_simp
          (go_at_call 11; refine (HSh.out _ KD).mono ?_; rintro E5 Z3 ⟨ga, gk, gc, rfl, hSg, J, hgk⟩)
          have HSg := Lib.hid hSg
          clear hSg
          replace FA := Lib.hid (J.only.heap FA.out (by simp))
          replace FB := Lib.hid (J.only.heap FB.out (by simp))
          replace KD := KD.trans J
          clear J
          refine hK.out _ _ (HS.out _ KD) (fun hHeld => ?_)
          clear hK K
          try simp only [Act.put, List.setIfInBounds_toArray, List.set_cons_zero, List.set_cons_succ]
          refine wpAnyH_ready (rs := [3]) (by kernel_rfl) (by simp) ?_
          apply AllReadyH.cons
          case ho => (simp only [List.getElem?_toArray, List.getElem?_cons_succ, List.getElem?_cons_zero]; rfl)
          case hs => exact AllReadyH.nil
          intro K hK
          go_simp
          (go_at_call 18; refine (HRs.out _ KD).mono ?_; rintro E6 Z4 ⟨ra, rk, rc, rfl, hSr, J, hrk⟩)
          have HSr := Lib.hid hSr
          clear hSr
          replace FA := Lib.hid (J.only.heap FA.out (by simp))
          replace FB := Lib.hid (J.only.heap FB.out (by simp))
          replace HSg := Lib.hid (HSg.out.kept J)
          replace KD := KD.trans J
          clear J
          refine hK.out _ _ (HS.out _ KD) (fun hHeld => ?_)
          clear hK K
          try simp only [Act.put, List.setIfInBounds_toArray, List.set_cons_zero, List.set_cons_succ]
          refine wpAnyH_ready (rs := [6]) (by kernel_rfl) (by simp) ?_
          apply AllReadyH.cons
          case ho => (simp only [List.getElem?_toArray, List.getElem?_cons_succ, List.getElem?_cons_zero]; rfl)
          case hs => exact AllReadyH.nil
          intro K hK
          have e0 := at_cell FA.out 0 _ rfl
          have e1 := at_cell FA.out 1 _ rfl
          have f0 := one_free FA.out 0
          have f1 := one_free FA.out 1
          go_simp
          obtain ⟨FA2, J⟩ := set2 FA.out (.int .i64 N) (.slice ga gk gc)
          have K2 := KD.onl J (by simp; omega)
          replace FB := Lib.hid (J.heap FB.out (by simp; omega))
          replace HSg := Lib.hid (slE_far HSg.out FA.out J)
          replace HSr := Lib.hid (slE_far HSr.out FA.out J)
          generalize World.setCell (World.setCell Z4 _ _) _ _ = Z5 at *
          replace FA := Lib.hid FA2
          replace KD := K2
          clear e0 e1 f0 f1 FA2 J K2
          refine hK.out _ _ (HS.out _ KD) (fun hHeld => ?_)
          clear hK K
          try simp only [Act.put, List.setIfInBounds_toArray, List.set_cons_zero, List.set_cons_succ]
          refine wpAnyH_ready (rs := [7]) (by kernel_rfl) (by simp) ?_
          apply AllReadyH.cons
          case ho => (simp only [List.getElem?_toArray, List.getElem?_cons_succ, List.getElem?_cons_zero]; rfl)
          case hs => exact AllReadyH.nil
          intro K hK
          have e0 := at_cell FB.out 0 _ rfl
          have e1 := at_cell FB.out 1 _ rfl
          have f0 := one_free FB.out 0
          have f1 := one_free FB.out 1
          go_simp
          obtain ⟨FB2, J⟩ := set2 FB.out (.int .i64 N) (.slice ra rk rc)
          have K2 := KD.onl J (by simp; omega)
          replace FA := Lib.hid (J.heap FA.out (by simp; omega))
          replace HSg := Lib.hid (slE_far HSg.out FB.out J)
          replace HSr := Lib.hid (slE_far HSr.out FB.out J)
          generalize World.setCell (World.setCell Z5 _ _) _ _ = Z6 at *
          replace FB := Lib.hid FB2
          replace KD := K2
          clear e0 e1 f0 f1 FB2 J K2
          refine hK.out _ _ (HS.out _ KD) (fun hHeld => ?_)
          clear hK K
          try simp only [Act.put, List.setIfInBounds_toArray, List.set_cons_zero, List.set_cons_succ]
          refine wpAnyH_done (by kernel_rfl) ?_ _
          go_wp2_with fail
          go_meet
          exact ⟨pa, pb, ga, gk, gc, ra, rk, rc, rfl, rfl, FA.out, FB.out, HSg.out, HSr.out, hgk, hrk, KD⟩
        intro K hK
        go_simp
        (go_at_call 11; refine (HSh.out _ KD).mono ?_; rintro E5 Z2 ⟨ga, gk, gc, rfl, hSg, J, hgk⟩)
        have HSg := Lib.hid hSg
        clear hSg
        replace FA := Lib.hid (J.only.heap FA.out (by simp))
        replace KD := KD.trans J
        clear J
        refine hK.out _ _ (HS.out _ KD) (fun hHeld => ?_)
        clear hK K
        try simp only [Act.put, List.setIfInBounds_toArray, List.set_cons_zero, List.set_cons_succ]
        refine wpAnyH_ready (rs := [3, 5]) (by kernel_rfl) (by simp) ?_
        apply AllReadyH.cons
        case ho => (simp only [List.getElem?_toArray, List.getElem?_cons_succ, List.getElem?_cons_zero]; rfl)
        case hs =>
          apply AllReadyH.cons
          case ho => (simp only [List.getElem?_toArray, List.getElem?_cons_succ, List.getElem?_cons_zero]; rfl)
          case hs => exact AllReadyH.nil
          intro K hK
          go_simp
          have hp0 := lt_heap FA.out
          have J := kept_al Z2 (.cells #[.int .i64 0, .slice none 0 0] 40)
          have FB := Lib.hid (heap_alloc_new Z2 (.cells #[.int .i64 0, .slice none 0 0] 40))
          have hz := KD.size
          replace FA := Lib.hid (J.only.heap FA.out (by simp))
          replace HSg := Lib.hid (HSg.out.kept J)
          replace KD := KD.trans J
          generalize World.alloc Z2 _ = Z3 at *
          obtain ⟨pb, hpb⟩ : ∃ p, Z2.heap.size = p := ⟨_, rfl⟩
          rw [hpb] at FB
          try rw [hpb]
          have lpb : V3.heap.size ≤ pb := by omega
          have hpp : pa < pb := by omega
          clear J hz hpb
          refine hK.out _ _ (HS.out _ KD) (fun hHeld => ?_)
          clear hK K
          try simp only [Act.put, List.setIfInBounds_toArray, List.set_cons_zero, List.set_cons_succ]
          refine wpAnyH_ready (rs := [3]) (by kernel_rfl) (by simp) ?_
          apply AllReadyH.cons
          case ho => (simp only [List.getElem?_toArray, List.getElem?_cons_succ, List.getElem?_cons_zero]; rfl)
          case hs => exact AllReadyH.nil
          intro K hK
          go_simp
          (go_at_call 18; refine (HRs.out _ KD).mono ?_; rintro E6 Z4 ⟨ra, rk, rc, rfl, hSr, J, hrk⟩)
          have HSr := Lib.hid hSr
          clear hSr
          replace FA := Lib.hid (J.only.heap FA.out (by simp))
          replace FB := Lib.hid (J.only.heap FB.out (by simp))
          replace HSg := Lib.hid (HSg.out.kept J)
          replace KD := KD.trans J
          clear J
          refine hK.out _ _ (HS.out _ KD) (fun hHeld => ?_)
          clear hK K
          try simp only [Act.put, List.setIfInBounds_toArray, List.set_cons_zero, List.set_cons_succ]
          refine wpAnyH_ready (rs := [6]) (by kernel_rfl) (by simp) ?_
          apply AllReadyH.cons
          case ho => (simp only [List.getElem?_toArray, List.getElem?_cons_succ, List.getElem?_cons_zero]; rfl)
          case hs => exact AllReadyH.nil
          intro K hK
          have e0 := at_cell FA.out 0 _ rfl
          have e1 := at_cell FA.out 1 _ rfl
          have f0 := one_free FA.out 0
          have f1 := one_free FA.out 1
          go_simp
          obtain ⟨FA2, J⟩ := set2 FA.out (.int .i64 N) (.slice ga gk gc)
          have K2 := KD.onl J (by simp; omega)
          replace FB := Lib.hid (J.heap FB.out (by simp; omega))
          replace HSg := Lib.hid (slE_far HSg.out FA.out J)
          replace HSr := Lib.hid (slE_far HSr.out FA.out J)
          generalize World.setCell (World.setCell Z4 _ _) _ _ = Z5 at *
          replace FA := Lib.hid FA2
          replace KD := K2
          clear e0 e1 f0 f1 FA2 J K2
          refine hK.out _ _ (HS.out _ KD) (fun hHeld => ?_)
          clear hK K
          try simp only [Act.put, List.setIfInBounds_toArray, List.set_cons_zero, List.set_cons_succ]
          refine wpAnyH_ready (rs := [7]) (by kernel_rfl) (by simp) ?_
          apply AllReadyH.cons
          case ho => (simp only [List.getElem?_toArray, List.getElem?_cons_succ, List.getElem?_cons_zero]; rfl)
          case hs => exact AllReadyH.nil
          intro K hK
          have e0 := at_cell FB.out 0 _ rfl
          have e1 := at_cell FB.out 1 _ rfl
          have f0 := one_free FB.out 0
          have f1 := one_free FB.out 1
          go_simp
          obtain ⟨FB2, J⟩ := set2 FB.out (.int .i64 N) (.slice ra rk rc)
          have K2 := KD.onl J (by simp; omega)
          replace FA := Lib.hid (J.heap FA.out (by simp; omega))
          replace HSg := Lib.hid (slE_far HSg.out FB.out J)
          replace HSr := Lib.hid (slE_far HSr.out FB.out J)
          generalize World.setCell (World.setCell Z5 _ _) _ _ = Z6 at *
          replace FB := Lib.hid FB2
          replace KD := K2
          clear e0 e1 f0 f1 FB2 J K2
          refine hK.out _ _ (HS.out _ KD) (fun hHeld => ?_)
          clear hK K
          try simp only [Act.put, List.setIfInBounds_toArray, List.set_cons_zero, List.set_cons_succ]
          refine wpAnyH_done (by kernel_rfl) ?_ _
          go_wp2_with fail
          go_meet
          exact ⟨pa, pb, ga, gk, gc, ra, rk, rc, rfl, rfl, FA.out, FB.out, HSg.out, HSr.out, hgk, hrk, KD⟩
        intro K hK
        go_simp
        (go_at_call 18; refine (HRs.out _ KD).mono ?_; rintro E6 Z3 ⟨ra, rk, rc, rfl, hSr, J, hrk⟩)
        have HSr := Lib.hid hSr
        clear hSr
        replace FA := Lib.hid (J.only.heap FA.out (by simp))
        replace HSg := Lib.hid (HSg.out.kept J)
        replace KD := KD.trans J
        clear J
        refine hK.out _ _ (HS.out _ KD) (fun hHeld => ?_)
        clear hK K
        try simp only [Act.put, List.setIfInBounds_toArray, List.set_cons_zero, List.set_cons_succ]
        refine wpAnyH_ready (rs := [5]) (by kernel_rfl) (by simp) ?_
        apply AllReadyH.cons
        case ho => (simp only [List.getElem?_toArray, List.getElem?_cons_succ, List.getElem?_cons_zero]; rfl)
        case hs => exact AllReadyH.nil
        intro K hK
        go_simp
        have hp0 := lt_heap FA.out
        have J := kept_al Z3 (.cells #[.int .i64 0, .slice none 0 0] 40)
        have FB := Lib.hid (heap_alloc_new Z3 (.cells #[.int .i64 0, .slice none 0 0] 40))
        have hz := KD.size
        replace FA := Lib.hid (J.only.heap FA.out (by simp))
        replace HSg := Lib.hid (HSg.out.kept J)
        replace HSr := Lib.hid (HSr.out.kept J)
        replace KD := KD.trans J
        generalize World.alloc Z3 _ = Z4 at *
        obtain ⟨pb, hpb⟩ : ∃ p, Z3.heap.size = p := ⟨_, rfl⟩
        rw [hpb] at FB
        try rw [hpb]
        have lpb : V3.heap.size ≤ pb := by omega
        have hpp : pa < pb := by omega
        clear J hz hpb
        refine hK.out _ _ (HS.out _ KD) (fun hHeld => ?_)
        clear hK K
        try simp only [Act.put, List.setIfInBounds_toArray, List.set_cons_zero, List.set_cons_succ]
        refine wpAnyH_ready (rs := [6]) (by kernel_rfl) (by simp) ?_
        apply AllReadyH.cons
        case ho => (simp only [List.getElem?_toArray, List.getElem?_cons_succ, List.getElem?_cons_zero]; rfl)
        case hs => exact AllReadyH.nil
        intro K hK
        have e0 := at_cell FA.out 0 _ rfl
        have e1 := at_cell FA.out 1 _ rfl
        have f0 := one_free FA.out 0
        have f1 := one_free FA.out 1
        go_simp
        obtain ⟨FA2, J⟩ := set2 FA.out (.int .i64 N) (.slice ga gk gc)
        have K2 := KD.onl J (by simp; omega)
        replace FB := Lib.hid (J.heap FB.out (by simp; omega))
        replace HSg := Lib.hid (slE_far HSg.out FA.out J)
        replace HSr := Lib.hid (slE_far HSr.out FA.out J)
        generalize World.setCell (World.setCell Z4 _ _) _ _ = Z5 at *
        replace FA := Lib.hid FA2
        replace KD := K2
        clear e0 e1 f0 f1 FA2 J K2
        refine hK.out _ _ (HS.out _ KD) (fun hHeld => ?_)
        clear hK K
        try simp only [Act.put, List.setIfInBounds_toArray, List.set_cons_zero, List.set_cons_succ]
        refine wpAnyH_ready (rs := [7]) (by kernel_rfl) (by simp) ?_
        apply AllReadyH.cons
        case ho => (simp only [List.getElem?_toArray, List.getElem?_cons_succ, List.getElem?_cons_zero]; rfl)
        case hs => exact AllReadyH.nil
        intro K hK
        have e0 := at_cell FB.out 0 _ rfl
        have e1 := at_cell FB.out 1 _ rfl
        have f0 := one_free FB.out 0
        have f1 := one_free FB.out 1
        go_simp
        obtain ⟨FB2, J⟩ := set2 FB.out (.int .i64 N) (.slice ra rk rc)
        have K2 := KD.onl J (by simp; omega)
        replace FA := Lib.hid (J.heap FA.out (by simp; omega))
        replace HSg := Lib.hid (slE_far HSg.out FB.out J)
        replace HSr := Lib.hid (slE_far HSr.out FB.out J)
        generalize World.setCell (World.setCell Z5 _ _) _ _ = Z6 at *
        replace FB := Lib.hid FB2
        replace KD := K2
        clear e0 e1 f0 f1 FB2 J K2
        refine hK.out _ _ (HS.out _ KD) (fun hHeld => ?_)
        clear hK K
        try simp only [Act.put, List.setIfInBounds_toArray, List.set_cons_zero, List.set_cons_succ]
        refine wpAnyH_done (by kernel_rfl) ?_ _
        go_wp2_with fail
        go_meet
        exact ⟨pa, pb, ga, gk, gc, ra, rk, rc, rfl, rfl, FA.out, FB.out, HSg.out, HSr.out, hgk, hrk, KD⟩
      intro K hK
      go_simp
      (go_at_call 11; refine (HSh.out _ KD).mono ?_; rintro E5 Z1 ⟨ga, gk, gc, rfl, hSg, J, hgk⟩)
      have HSg := Lib.hid hSg
      clear hSg
      replace KD := KD.trans J
      clear J
      refine hK.out _ _ (HS.out _ KD) (fun hHeld => ?_)
      clear hK K
      try simp only [Act.put, List.setIfInBounds_toArray, List.set_cons_zero, List.set_cons_succ]
      refine wpAnyH_ready (rs := [3, 4, 5]) (by kernel_rfl) (by simp) ?_
      apply AllReadyH.cons
      case ho => (simp only [List.getElem?_toArray, List.getElem?_cons_succ, List.getElem?_cons_zero]; rfl)
      case hs =>
        apply AllReadyH.cons
        case ho => (simp only [List.getElem?_toArray, List.getElem?_cons_succ, List.getElem?_cons_zero]; rfl)
        case hs =>
          apply AllReadyH.cons
          case ho => (simp only [List.getElem?_toArray, List.getElem?_cons_succ, List.getElem?_cons_zero]; rfl)
          case hs => exact AllReadyH.nil
          intro K hK
          go_simp
          have J := kept_al Z1 (.cells #[.int .i64 0, .slice none 0 0] 40)
          have FB := Lib.hid (heap_alloc_new Z1 (.cells #[.int .i64 0, .slice none 0 0] 40))
          have hz := KD.size
          replace HSg := Lib.hid (HSg.out.kept J)
          replace KD := KD.trans J
          generalize World.alloc Z1 _ = Z2 at *
          obtain ⟨pb, hpb⟩ : ∃ p, Z1.heap.size = p := ⟨_, rfl⟩
          rw [hpb] at FB
          try rw [hpb]
          have lpb : V3.heap.size ≤ pb := by omega
          clear J hz hpb
          refine hK.out _ _ (HS.out _ KD) (fun hHeld => ?_)
          clear hK K
          try simp only [Act.put, List.setIfInBounds_toArray, List.set_cons_zero, List.set_cons_succ]
          refine wpAnyH_ready (rs := [3, 4]) (by kernel_rfl) (by simp) ?_
          apply AllReadyH.cons
          case ho => (simp only [List.getElem?_toArray, List.getElem?_cons_succ, List.getElem?_cons_zero]; rfl)
          case hs =>
            apply AllReadyH.cons
            case ho => (simp only [List.getElem?_toArray, List.getElem?_cons_succ, List.getElem?_cons_zero]; rfl)
            case hs => exact AllReadyH.nil
            intro K hK
            go_simp
            have hp0 := lt_heap FB.out
            have J := kept_al Z2 (.cells #[.int .i64 0, .slice none 0 0] 24)
            have FA := Lib.hid (heap_alloc_new Z2 (.cells #[.int .i64 0, .slice none 0 0] 24))
            have hz := KD.size
            replace FB := Lib.hid (J.only.heap FB.out (by simp))
            replace HSg := Lib.hid (HSg.out.kept J)
            replace KD := KD.trans J
            generalize World.alloc Z2 _ = Z3 at *
            obtain ⟨pa, hpa⟩ : ∃ p, Z2.heap.size = p := ⟨_, rfl⟩
            rw [hpa] at FA
            try rw [hpa]
            have lpa : V3.heap.size ≤ pa := by omega
            have hpp : pb < pa := by omega
            clear J hz hpa
            refine hK.out _ _ (HS.out _ KD) (fun hHeld => ?_)
            clear hK K
            try simp only [Act.put, List.setIfInBounds_toArray, List.set_cons_zero, List.set_cons_succ]
            refine wpAnyH_ready (rs := [3]) (by kernel_rfl) (by simp) ?_
            apply AllReadyH.cons
            case ho => (simp only [List.getElem?_toArray, List.getElem?_cons_succ, List.getElem?_cons_zero]; rfl)
            case hs => exact AllReadyH.nil
            intro K hK
            go_simp
            (go_at_call 18; refine (HRs.out _ KD).mono ?_; rintro E6 Z4 ⟨ra, rk, rc, rfl, hSr, J, hrk⟩)
            have HSr := Lib.hid hSr
            clear hSr
            replace FA := Lib.hid (J.only.heap FA.out (by simp))
            replace FB := Lib.hid (J.only.heap FB.out (by simp))
            replace HSg := Lib.hid (HSg.out.kept J)
            replace KD := KD.trans J
            clear J
            refine hK.out _ _ (HS.out _ KD) (fun hHeld => ?_)
            clear hK K
            try simp only [Act.put, List.setIfInBounds_toArray, List.set_cons_zero, List.set_cons_succ]
            refine wpAnyH_ready (rs := [6]) (by kernel_rfl) (by simp) ?_
            apply AllReadyH.cons
            case ho => (simp only [List.getElem?_toArray, List.getElem?_cons_succ, List.getElem?_cons_zero]; rfl)
            case hs => exact AllReadyH.nil
            intro K hK
            have e0 := at_cell FA.out 0 _ rfl
            have e1 := at_cell FA.out 1 _ rfl
            have f0 := one_free FA.out 0
            have f1 := one_free FA.out 1
            go_simp
            obtain ⟨FA2, J⟩ := set2 FA.out (.int .i64 N) (.slice ga gk gc)
            have K2 := KD.onl J (by simp; omega)
            replace FB := Lib.hid (J.heap FB.out (by simp; omega))
            replace HSg := Lib.hid (slE_far HSg.out FA.out J)
            replace HSr := Lib.hid (slE_far HSr.out FA.out J)
            generalize World.setCell (World.setCell Z4 _ _) _ _ = Z5 at *
            replace FA := Lib.hid FA2
            replace KD := K2
            clear e0 e1 f0 f1 FA2 J K2
            refine hK.out _ _ (HS.out _ KD) (fun hHeld => ?_)
            clear hK K
            try simp only [Act.put, List.setIfInBounds_toArray, List.set_cons_zero, List.set_cons_succ]
            refine wpAnyH_ready (rs := [7]) (by kernel_rfl) (by simp) ?_
            apply AllReadyH.cons
            case ho => (simp only [List.getElem?_toArray, List.getElem?_cons_succ, List.getElem?_cons_zero]; rfl)
            case hs => exact AllReadyH.nil
            intro K hK
            have e0 := at_cell FB.out 0 _ rfl
            have e1 := at_cell FB.out 1 _ rfl
            have f0 := one_free FB.out 0
            have f1 := one_free FB.out 1
            go_simp
            obtain ⟨FB2, J⟩ := set2 FB.out (.int .i64 N) (.slice ra rk rc)
            have K2 := KD.onl J (by simp; omega)
            replace FA := Lib.hid (J.heap FA.out (by simp; omega))
            replace HSg := Lib.hid (slE_far HSg.out FB.out J)
            replace HSr := Lib.hid (slE_far HSr.out FB.out J)
            generalize World.setCell (World.setCell Z5 _ _) _ _ = Z6 at *
            replace FB := Lib.hid FB2
            replace KD := K2
            clear e0 e1 f0 f1 FB2 J K2
            refine hK.out _ _ (HS.out _ KD) (fun hHeld => ?_)
            clear hK K
            try simp only [Act.put, List.setIfInBounds_toArray, List.set_cons_zero, List.set_cons_succ]
            refine wpAnyH_done (by kernel_rfl) ?_ _
            go_wp2_with fail
            go_meet
            exact ⟨pa, pb, ga, gk, gc, ra, rk, rc, rfl, rfl, FA.out, FB.out, HSg.out, HSr.out, hgk, hrk, KD⟩
          intro K hK
          go_simp
          (go_at_call 18; refine (HRs.out _ KD).mono ?_; rintro E6 Z3 ⟨ra, rk, rc, rfl, hSr, J, hrk⟩)
          have HSr := Lib.hid hSr
          clear hSr
          replace FB := Lib.hid (J.only.heap FB.out (by simp))
          replace HSg := Lib.hid (HSg.out.kept J)
          replace KD := KD.trans J
          clear J
          refine hK.out _ _ (HS.out _ KD) (fun hHeld => ?_)
          clear hK K
          try simp only [Act.put, List.setIfInBounds_toArray, List.set_cons_zero, List.set_cons_succ]
          refine wpAnyH_ready (rs := [4]) (by kernel_rfl) (by simp) ?_
          apply AllReadyH.cons
          case ho => (simp only [List.getElem?_toArray, List.getElem?_cons_succ, List.getElem?_cons_zero]; rfl)
          case hs => exact AllReadyH.nil
          intro K hK
          go_simp
          have hp0 := lt_heap FB.out
          have J := kept_al Z3 (.cells #[.int .i64 0, .slice none 0 0] 24)
          have FA := Lib.hid (heap_alloc_new Z3 (.cells #[.int .i64 0, .slice none 0 0] 24))
          have hz := KD.size
          replace FB := Lib.hid (J.only.heap FB.out (by simp))
          replace HSg := Lib.hid (HSg.out.kept J)
          replace HSr := Lib.hid (HSr.out.kept J)
          replace KD := KD.trans J
          generalize World.alloc Z3 _ = Z4 at *
          obtain ⟨pa, hpa⟩ : ∃ p, Z3.heap.size = p := ⟨_, rfl⟩
          rw [hpa] at FA
          try rw [hpa]
          have lpa : V3.heap.size ≤ pa := by omega
          have hpp : pb < pa := by omega
          clear J hz hpa
          refine hK.out _ _ (HS.out _ KD) (fun hHeld => ?_)
          clear hK K
          try simp only [Act.put, List.setIfInBounds_toArray, List.set_cons_zero, List.set_cons_succ]
          refine wpAnyH_ready (rs := [6]) (by kernel_rfl) (by simp) ?_
          apply AllReadyH.cons
          case ho => (simp only [List.getElem?_toArray, List.getElem?_cons_succ, List.getElem?_cons_zero]; rfl)
          case hs => exact AllReadyH.nil
          intro K hK
          have e0 := at_cell FA.out 0 _ rfl
          have e1 := at_cell FA.out 1 _ rfl
          have f0 := one_free FA.out 0
          have f1 := one_free FA.out 1
          go_simp
          obtain ⟨FA2, J⟩ := set2 FA.out (.int .i64 N) (.slice ga gk gc)
          have K2 := KD.onl J (by simp; omega)
          replace FB := Lib.hid (J.heap FB.out (by simp; omega))
          replace HSg := Lib.hid (slE_far HSg.out FA.out J)
          replace HSr := Lib.hid (slE_far HSr.out FA.out J)
          generalize World.setCell (World.setCell Z4 _ _) _ _ = Z5 at *
          replace FA := Lib.hid FA2
          replace KD := K2
          clear e0 e1 f0 f1 FA2 J K2
          refine hK.out _ _ (HS.out _ KD) (fun hHeld => ?_)
          clear hK K
          try simp only [Act.put, List.setIfInBounds_toArray, List.set_cons_zero, List.set_cons_succ]
          refine wpAnyH_ready (rs := [7]) (by kernel_rfl) (by simp) ?_
          apply AllReadyH.cons
          case ho => (simp only [List.getElem?_toArray, List.getElem?_cons_succ, List.getElem?_cons_zero]; rfl)
          case hs => exact AllReadyH.nil
          intro K hK
          have e0 := at_cell FB.out 0 _ rfl
          have e1 := at_cell FB.out 1 _ rfl
          have f0 := one_free FB.out 0
          have f1 := one_free FB.out 1
          go_simp
          obtain ⟨FB2, J⟩ := set2 FB.out (.int .i64 N) (.slice ra rk rc)
          have K2 := KD.onl J (by simp; omega)
          replace FA := Lib.hid (J.heap FA.out (by simp; omega))
          replace HSg := Lib.hid (slE_far HSg.out FB.out J)
          replace HSr := Lib.hid (slE_far HSr.out FB.out J)
          generalize World.setCell (World.setCell Z5 _ _) _ _ = Z6 at *
          replace FB := Lib.hid FB2
          replace KD := K2
          clear e0 e1 f0 f1 FB2 J K2
          refine hK.out _ _ (HS.out _ KD) (fun hHeld => ?_)
          clear hK K
          try simp only [Act.put, List.setIfInBounds_toArray, List.set_cons_zero, List.set_cons_succ]
          refine wpAnyH_done (by kernel_rfl) ?_ _
          go_wp2_with fail
          go_meet
          exact ⟨pa, pb, ga, gk, gc, ra, rk, rc, rfl, rfl, FA.out, FB.out, HSg.out, HSr.out, hgk, hrk, KD⟩
        intro K hK
        go_simp
        have J := kept_al Z1 (.cells #[.int .i64 0, .slice none 0 0] 24)
        have FA := Lib.hid (heap_alloc_new Z1 (.cells #[.int .i64 0, .slice none 0 0] 24))
        have hz := KD.size
        replace HSg := Lib.hid (HSg.out.kept J)
        replace KD := KD.trans J
        generalize World.alloc Z1 _ = Z2 at *
        obtain ⟨pa, hpa⟩ : ∃ p, Z1.heap.size = p := ⟨_, rfl⟩
        rw [hpa] at FA
        try rw [hpa]
        have lpa : V3.heap.size ≤ pa := by omega
        clear J hz hpa
        refine hK.out _ _ (HS.out _ KD) (fun hHeld => ?_)
        clear hK K
        try simp only [Act.put, List.setIfInBounds_toArray, List.set_cons_zero, List.set_cons_succ]
        refine wpAnyH_ready (rs := [3, 5]) (by kernel_rfl) (by simp) ?_
        apply AllReadyH.cons
        case ho => (simp only [List.getElem?_toArray, List.getElem?_cons_succ, List.getElem?_cons_zero]; rfl)
        case hs =>
          apply AllReadyH.cons
          case ho => (simp only [List.getElem?_toArray, List.getElem?_cons_succ, List.getElem?_cons_zero]; rfl)
          case hs => exact AllReadyH.nil
          intro K hK
          go_simp
          have hp0 := lt_heap FA.out
          have J := kept_al Z2 (.cells #[.int .i64 0, .slice none 0 0] 40)
          have FB := Lib.hid (heap_alloc_new Z2 (.cells #[.int .i64 0, .slice none 0 0] 40))
          have hz := KD.size
          replace FA := Lib.hid (J.only.heap FA.out (by simp))
          replace HSg := Lib.hid (HSg.out.kept J)
          replace KD := KD.trans J
          generalize World.alloc Z2 _ = Z3 at *
          obtain ⟨pb, hpb⟩ : ∃ p, Z2.heap.size = p := ⟨_, rfl⟩
          rw [hpb] at FB
          try rw [hpb]
          have lpb : V3.heap.size ≤ pb := by omega
          have hpp : pa < pb := by omega
          clear J hz hpb
          refine hK.out _ _ (HS.out _ KD) (fun hHeld => ?_)
          clear hK K
          try simp only [Act.put, List.setIfInBounds_toArray, List.set_cons_zero, List.set_cons_succ]
          refine wpAnyH_ready (rs := [3]) (by kernel_rfl) (by simp) ?_
          apply AllReadyH.cons
          case ho => (simp only [List.getElem?_toArray, List.getElem?_cons_succ, List.getElem?_cons_zero]; rfl)
          case hs => exact AllReadyH.nil
          intro K hK
          go_simp
          (go_at_call 18; refine (HRs.out _ KD).mono ?_; rintro E6 Z4 ⟨ra, rk, rc, rfl, hSr, J, hrk⟩)
          have HSr := Lib.hid hSr
          clear hSr
          replace FA := Lib.hid (J.only.heap FA.out (by simp))
          replace FB := Lib.hid (J.only.heap FB.out (by simp))
          replace HSg := Lib.hid (HSg.out.kept J)
          replace KD := KD.trans J
          clear J
          refine hK.out _ _ (HS.out _ KD) (fun hHeld => ?_)
          clear hK K
          try simp only [Act.put, List.setIfInBounds_toArray, List.set_cons_zero, List.set_cons_succ]
          refine wpAnyH_ready (rs := [6]) (by kernel_rfl) (by simp) ?_
          apply AllReadyH.cons
          case ho => (simp only [List.getElem?_toArray, List.getElem?_cons_succ, List.getElem?_cons_zero]; rfl)
          case hs => exact AllReadyH.nil
          intro K hK
          have e0 := at_cell FA.out 0 _ rfl
          have e1 := at_cell FA.out 1 _ rfl
          have f0 := one_free FA.out 0
          have f1 := one_free FA.out 1
          go_simp
          obtain ⟨FA2, J⟩ := set2 FA.out (.int .i64 N) (.slice ga gk gc)
          have K2 := KD.onl J (by simp; omega)
          replace FB := Lib.hid (J.heap FB.out (by simp; omega))
          replace HSg := Lib.hid (slE_far HSg.out FA.out J)
          replace HSr := Lib.hid (slE_far HSr.out FA.out J)
          generalize World.setCell (World.setCell Z4 _ _) _ _ = Z5 at *
          replace FA := Lib.hid FA2
          replace KD := K2
          clear e0 e1 f0 f1 FA2 J K2
          refine hK.out _ _ (HS.out _ KD) (fun hHeld => ?_)
          clear hK K
          try simp only [Act.put, List.setIfInBounds_toArray, List.set_cons_zero, List.set_cons_succ]
          refine wpAnyH_ready (rs := [7]) (by kernel_rfl) (by simp) ?_
          apply AllReadyH.cons
          case ho => (simp only [List.getElem?_toArray, List.getElem?_cons_succ, List.getElem?_cons_zero]; rfl)
          case hs => exact AllReadyH.nil
          intro K hK
          have e0 := at_cell FB.out 0 _ rfl
          have e1 := at_cell FB.out 1 _ rfl
          have f0 := one_free FB.out 0
          have f1 := one_free FB.out 1
          go_simp
          obtain ⟨FB2, J⟩ := set2 FB.out (.int .i64 N) (.slice ra rk rc)
          have K2 := KD.onl J (by simp; omega)
          replace FA := Lib.hid (J.heap FA.out (by simp; omega))
          replace HSg := Lib.hid (slE_far HSg.out FB.out J)
          replace HSr := Lib.hid (slE_far HSr.out FB.out J)
          generalize World.setCell (World.setCell Z5 _ _) _ _ = Z6 at *
          replace FB := Lib.hid FB2
          replace KD := K2
          clear e0 e1 f0 f1 FB2 J K2
          refine hK.out _ _ (HS.out _ KD) (fun hHeld => ?_)
          clear hK K
          try simp only [Act.put, List.setIfInBounds_toArray, List.set_cons_zero, List.set_cons_succ]
          refine wpAnyH_done (by kernel_rfl) ?_ _
          go_wp2_with fail
          go_meet
          exact ⟨pa, pb, ga, gk, gc, ra, rk, rc, rfl, rfl, FA.out, FB.out, HSg.out, HSr.out, hgk, hrk, KD⟩
        intro K hK
        go_simp
        (go_at_call 18; refine (HRs.out _ KD).mono ?_; rintro E6 Z3 ⟨ra, rk, rc, rfl, hSr, J, hrk⟩)
        have HSr := Lib.hid hSr
        clear hSr
        replace FA := Lib.hid (J.only.heap FA.out (by simp))
        replace HSg := Lib.hid (HSg.out.kept J)
        replace KD := KD.trans J
        clear J
        refine hK.out _ _ (HS.out _ KD) (fun hHeld => ?_)
        clear hK K
        try simp only [Act.put, List.setIfInBounds_toArray, List.set_cons_zero, List.set_cons_succ]
        refine wpAnyH_ready (rs := [5]) (by kernel_rfl) (by simp) ?_
        apply AllReadyH.cons
        case ho => (simp only [List.getElem?_toArray, List.getElem?_cons_succ, List.getElem?_cons_zero]; rfl)
        case hs => exact AllReadyH.nil
        intro K hK
        go_simp
        have hp0 := lt_heap FA.out
        have J := kept_al Z3 (.cells #[.int .i64 0, .slice none 0 0] 40)
        have FB := Lib.hid (heap_alloc_new Z3 (.cells #[.int .i64 0, .slice none 0 0] 40))
        have hz := KD.size
        replace FA := Lib.hid (J.only.heap FA.out (by simp))
        replace HSg := Lib.hid (HSg.out.kept J)
        replace HSr := Lib.hid (HSr.out.kept J)
        replace KD := KD.trans J
        generalize World.alloc Z3 _ = Z4 at *
        obtain ⟨pb, hpb⟩ : ∃ p, Z3.heap.size = p := ⟨_, rfl⟩
        rw [hpb] at FB
        try rw [hpb]
        have lpb : V3.heap.size ≤ pb := by omega
        have hpp : pa < pb := by omega
        clear J hz hpb
        refine hK.out _ _ (HS.out _ KD) (fun hHeld => ?_)
        clear hK K
        try simp only [Act.put, List.setIfInBounds_toArray, List.set_cons_zero, List.set_cons_succ]
        refine wpAnyH_ready (rs := [6]) (by kernel_rfl) (by simp) ?_
        apply AllReadyH.cons
        case ho => (simp only [List.getElem?_toArray, List.getElem?_cons_succ, List.getElem?_cons_zero]; rfl)
        case hs => exact AllReadyH.nil
        intro K hK
        have e0 := at_cell FA.out 0 _ rfl
        have e1 := at_cell FA.out 1 _ rfl
        have f0 := one_free FA.out 0
        have f1 := one_free FA.out 1
        go_simp
        obtain ⟨FA2, J⟩ := set2 FA.out (.int .i64 N) (.slice ga gk gc)
        have K2 := KD.onl J (by simp; omega)
        replace FB := Lib.hid (J.heap FB.out (by simp; omega))
        replace HSg := Lib.hid (slE_far HSg.out FA.out J)
        replace HSr := Lib.hid (slE_far HSr.out FA.out J)
        generalize World.setCell (World.setCell Z4 _ _) _ _ = Z5 at *
        replace FA := Lib.hid FA2
        replace KD := K2
        clear e0 e1 f0 f1 FA2 J K2
        refine hK.out _ _ (HS.out _ KD) (fun hHeld => ?_)
        clear hK K
        try simp only [Act.put, List.setIfInBounds_toArray, List.set_cons_zero, List.set_cons_succ]
        refine wpAnyH_ready (rs := [7]) (by kernel_rfl) (by simp) ?_
        apply AllReadyH.cons
        case ho => (simp only [List.getElem?_toArray, List.getElem?_cons_succ, List.getElem?_cons_zero]; rfl)
        case hs => exact AllReadyH.nil
        intro K hK
        have e0 := at_cell FB.out 0 _ rfl
        have e1 := at_cell FB.out 1 _ rfl
        have f0 := one_free FB.out 0
        have f1 := one_free FB.out 1
        go_simp
        obtain ⟨FB2, J⟩ := set2 FB.out (.int .i64 N) (.slice ra rk rc)
        have K2 := KD.onl J (by simp; omega)
        replace FA := Lib.hid (J.heap FA.out (by simp; omega))
        replace HSg := Lib.hid (slE_far HSg.out FB.out J)
        replace HSr := Lib.hid (slE_far HSr.out FB.out J)
        generalize World.setCell (World.setCell Z5 _ _) _ _ = Z6 at *
        replace FB := Lib.hid FB2
        replace KD := K2
        clear e0 e1 f0 f1 FB2 J K2
        refine hK.out _ _ (HS.out _ KD) (fun hHeld => ?_)
        clear hK K
        try simp only [Act.put, List.setIfInBounds_toArray, List.set_cons_zero, List.set_cons_succ]
        refine wpAnyH_done (by kernel_rfl) ?_ _
        go_wp2_with fail
        go_meet
        exact ⟨pa, pb, ga, gk, gc, ra, rk, rc, rfl, rfl, FA.out, FB.out, HSg.out, HSr.out, hgk, hrk, KD⟩
      intro K hK
      go_simp
      (go_at_call 18; refine (HRs.out _ KD).mono ?_; rintro E6 Z2 ⟨ra, rk, rc, rfl, hSr, J, hrk⟩)
      have HSr := Lib.hid hSr
      clear hSr
      replace HSg := Lib.hid (HSg.out.kept J)
      replace KD := KD.trans J
      clear J
      refine hK.out _ _ (HS.out _ KD) (fun hHeld => ?_)
      clear hK K
      try simp only [Act.put, List.setIfInBounds_toArray, List.set_cons_zero, List.set_cons_succ]
      refine wpAnyH_ready (rs := [4, 5]) (by kernel_rfl) (by simp) ?_
      apply AllReadyH.cons
      case ho => (simp only [List.getElem?_toArray, List.getElem?_cons_succ, List.getElem?_cons_zero]; rfl)
      case hs =>
        apply AllReadyH.cons
        case ho => (simp only [List.getElem?_toArray, List.getElem?_cons_succ, List.getElem?_cons_zero]; rfl)
        case hs => exact AllReadyH.nil
        intro K hK
        go_simp
        have J := kept_al Z2 (.cells #[.int .i64 0, .slice none 0 0] 40)
        have FB := Lib.hid (heap_alloc_new Z2 (.cells #[.int .i64 0, .slice none 0 0] 40))
        have hz := KD.size
        replace HSg := Lib.hid (HSg.out.kept J)
        replace HSr := Lib.hid (HSr.out.kept J)
        replace KD := KD.trans J
        generalize World.alloc Z2 _ = Z3 at *
        obtain ⟨pb, hpb⟩ : ∃ p, Z2.heap.size = p := ⟨_, rfl⟩
        rw [hpb] at FB
        try rw [hpb]
        have lpb : V3.heap.size ≤ pb := by omega
        clear J hz hpb
        refine hK.out _ _ (HS.out _ KD) (fun hHeld => ?_)
        clear hK K
        try simp only [Act.put, List.setIfInBounds_toArray, List.set_cons_zero, List.set_cons_succ]
        refine wpAnyH_ready (rs := [4]) (by kernel_rfl) (by simp) ?_
        apply AllReadyH.cons
        case ho => (simp only [List.getElem?_toArray, List.getElem?_cons_succ, List.getElem?_cons_zero]; rfl)
        case hs => exact AllReadyH.nil
        intro K hK
        go_simp
        have hp0 := lt_heap FB.out
        have J := kept_al Z3 (.cells #[.int .i64 0, .slice none 0 0] 24)
        have FA := Lib.hid (heap_alloc_new Z3 (.cells #[.int .i64 0, .slice none 0 0] 24))
        have hz := KD.size
        replace FB := Lib.hid (J.only.heap FB.out (by simp))
        replace HSg := Lib.hid (HSg.out.kept J)
        replace HSr := Lib.hid (HSr.out.kept J)
        replace KD := KD.trans J
        generalize World.alloc Z3 _ = Z4 at *
        obtain ⟨pa, hpa⟩ : ∃ p, Z3.heap.size = p := ⟨_, rfl⟩
        rw [hpa] at FA
        try rw [hpa]
        have lpa : V3.heap.size ≤ pa := by omega
        have hpp : pb < pa := by omega
        clear J hz hpa
        refine hK.out _ _ (HS.out _ KD) (fun hHeld => ?_)
        clear hK K
        try simp only [Act.put, List.setIfInBounds_toArray, List.set_cons_zero, List.set_cons_succ]
        refine wpAnyH_ready (rs := [6]) (by kernel_rfl) (by simp) ?_
        apply AllReadyH.cons
        case ho => (simp only [List.getElem?_toArray, List.getElem?_cons_succ, List.getElem?_cons_zero]; rfl)
        case hs => exact AllReadyH.nil
        intro K hK
        have e0 := at_cell FA.out 0 _ rfl
        have e1 := at_cell FA.out 1 _ rfl
        have f0 := one_free FA.out 0
        have f1 := one_free FA.out 1
        go_simp
        obtain ⟨FA2, J⟩ := set2 FA.out (.int .i64 N) (.slice ga gk gc)
        have K2 := KD.onl J (by simp; omega)
        replace FB := Lib.hid (J.heap FB.out (by simp; omega))
        replace HSg := Lib.hid (slE_far HSg.out FA.out J)
        replace HSr := Lib.hid (slE_far HSr.out FA.out J)
        generalize World.setCell (World.setCell Z4 _ _) _ _ = Z5 at *
        replace FA := Lib.hid FA2
        replace KD := K2
        clear e0 e1 f0 f1 FA2 J K2
        refine hK.out _ _ (HS.out _ KD) (fun hHeld => ?_)
        clear hK K
        try simp only [Act.put, List.setIfInBounds_toArray, List.set_cons_zero, List.set_cons_succ]
        refine wpAnyH_ready (rs := [7]) (by kernel_rfl) (by simp) ?_
        apply AllReadyH.cons
        case ho => (simp only [List.getElem?_toArray, List.getElem?_cons_succ, List.getElem?_cons_zero]; rfl)
        case hs => exact AllReadyH.nil
        intro K hK
        have e0 := at_cell FB.out 0 _ rfl
        have e1 := at_cell FB.out 1 _ rfl
        have f0 := one_free FB.out 0
        have f1 := one_free FB.out 1
        go_simp
        obtain ⟨FB2, J⟩ := set2 FB.out (.int .i64 N) (.slice ra rk rc)
        have K2 := KD.onl J (by simp; omega)
        replace FA := Lib.hid (J.heap FA.out (by simp; omega))
        replace HSg := Lib.hid (slE_far HSg.out FB.out J)
        replace HSr := Lib.hid (slE_far HSr.out FB.out J)
        generalize World.setCell (World.setCell Z5 _ _) _ _ = Z6 at *
        replace FB := Lib.hid FB2
        replace KD := K2
        clear e0 e1 f0 f1 FB2 J K2
        refine hK.out _ _ (HS.out _ KD) (fun hHeld => ?_)
        clear hK K
        try simp only [Act.put, List.setIfInBounds_toArray, List.set_cons_zero, List.set_cons_succ]
        refine wpAnyH_done (by kernel_rfl) ?_ _
        go_wp2_with fail
        go_meet
        exact ⟨pa, pb, ga, gk, gc, ra, rk, rc, rfl, rfl, FA.out, FB.out, HSg.out, HSr.out, hgk, hrk, KD⟩
      intro K hK
      go_simp
      have J := kept_al Z2 (.cells #[.int .i64 0, .slice none 0 0] 24)
      have FA := Lib.hid (heap_alloc_new Z2 (.cells #[.int .i64 0, .slice none 0 0] 24))
      have hz := KD.size
      replace HSg := Lib.hid (HSg.out.kept J)
      replace HSr := Lib.hid (HSr.out.kept J)
      replace KD := KD.trans J
      generalize World.alloc Z2 _ = Z3 at *
      obtain ⟨pa, hpa⟩ : ∃ p, Z2.heap.size = p := ⟨_, rfl⟩
      rw [hpa] at FA
      try rw [hpa]
      have lpa : V3.heap.size ≤ pa := by omega
      clear J hz hpa
      refine hK.out _ _ (HS.out _ KD) (fun hHeld => ?_)
      clear hK K
      try simp only [Act.put, List.setIfInBounds_toArray, List.set_cons_zero, List.set_cons_succ]
      refine wpAnyH_ready (rs := [5]) (by kernel_rfl) (by simp) ?_
      apply AllReadyH.cons
      case ho => (simp only [List.getElem?_toArray, List.getElem?_cons_succ, List.getElem?_cons_zero]; rfl)
      case hs => exact AllReadyH.nil
      intro K hK
      go_simp
      have hp0 := lt_heap FA.out
      have J := kept_al Z3 (.cells #[.int .i64 0, .slice none 0 0] 40)
      have FB := Lib.hid (heap_alloc_new Z3 (.cells #[.int .i64 0, .slice none 0 0] 40))
      have hz := KD.size
      replace FA := Lib.hid (J.only.heap FA.out (by simp))
      replace HSg := Lib.hid (HSg.out.kept J)
      replace HSr := Lib.hid (HSr.out.kept J)
      replace KD := KD.trans J
      generalize World.alloc Z3 _ = Z4 at *
      obtain ⟨pb, hpb⟩ : ∃ p, Z3.heap.size = p := ⟨_, rfl⟩
      rw [hpb] at FB
      try rw [hpb]
      have lpb : V3.heap.size ≤ pb := by omega
      have hpp : pa < pb := by omega
      clear J hz hpb
      refine hK.out _ _ (HS.out _ KD) (fun hHeld => ?_)
      clear hK K
      try simp only [Act.put, List.setIfInBounds_toArray, List.set_cons_zero, List.set_cons_succ]
      refine wpAnyH_ready (rs := [6]) (by kernel_rfl) (by simp) ?_
      apply AllReadyH.cons
      case ho => (simp only [List.getElem?_toArray, List.getElem?_cons_succ, List.getElem?_cons_zero]; rfl)
      case hs => exact AllReadyH.nil
      intro K hK
      have e0 := at_cell FA.out 0 _ rfl
      have e1 := at_cell FA.out 1 _ rfl
      have f0 := one_free FA.out 0
      have f1 := one_free FA.out 1
      go_simp
      obtain ⟨FA2, J⟩ := set2 FA.out (.int .i64 N) (.slice ga gk gc)
      have K2 := KD.onl J (by simp; omega)
      replace FB := Lib.hid (J.heap FB.out (by simp; omega))
      replace HSg := Lib.hid (slE_far HSg.out FA.out J)
      replace HSr := Lib.hid (slE_far HSr.out FA.out J)
      generalize World.setCell (World.setCell Z4 _ _) _ _ = Z5 at *
      replace FA := Lib.hid FA2
      replace KD := K2
      clear e0 e1 f0 f1 FA2 J K2
      refine hK.out _ _ (HS.out _ KD) (fun hHeld => ?_)
      clear hK K
      try simp only [Act.put, List.setIfInBounds_toArray, List.set_cons_zero, List.set_cons_succ]
      refine wpAnyH_ready (rs := [7]) (by kernel_rfl) (by simp) ?_
      apply AllReadyH.cons
      case ho => (simp only [List.getElem?_toArray, List.getElem?_cons_succ, List.getElem?_cons_zero]; rfl)
      case hs => exact AllReadyH.nil
      intro K hK
      have e0 := at_cell FB.out 0 _ rfl
      have e1 := at_cell FB.out 1 _ rfl
      have f0 := one_free FB.out 0
      have f1 := one_free FB.out 1
      go_simp
      obtain ⟨FB2, J⟩ := set2 FB.out (.int .i64 N) (.slice ra rk rc)
      have K2 := KD.onl J (by simp; omega)
      replace FA := Lib.hid (J.heap FA.out (by simp; omega))
      replace HSg := Lib.hid (slE_far HSg.out FB.out J)
      replace HSr := Lib.hid (slE_far HSr.out FB.out J)
      generalize World.setCell (World.setCell Z5 _ _) _ _ = Z6 at *
      replace FB := Lib.hid FB2
      replace KD := K2
      clear e0 e1 f0 f1 FB2 J K2
      refine hK.out _ _ (HS.out _ KD) (fun hHeld => ?_)
      clear hK K
      try simp only [Act.put, List.setIfInBounds_toArray, List.set_cons_zero, List.set_cons_succ]
      refine wpAnyH_done (by kernel_rfl) ?_ _
      go_wp2_with fail
      go_meet
      exact ⟨pa, pb, ga, gk, gc, ra, rk, rc, rfl, rfl, FA.out, FB.out, HSg.out, HSr.out, hgk, hrk, KD⟩
    case rest =>
      obtain ⟨pa, pb, ga, gk, gc, ra, rk, rc, rfl, rfl, FA, FB, hSg, hSr, hgk, hrk, KC⟩ := hcut
      have HSg := Lib.hid hSg
      have HSr := Lib.hid hSr
      have HKC := Lib.hid KC
      have HS7 : Hid (∀ Z, Kept wc Z → ((Z.cell? ⟨bx, 0, none⟩ = some (.int .i64 N) ∧ Z.cell? ⟨bx, 1, none⟩ = some (.slice s m c)) ∧ Z.cell? ⟨bo, 0, none⟩ = some (.int .i64 N) ∧ Z.cell? ⟨bo, 1, none⟩ = some (.slice oa m oc)) ∧ (Z.cell? ⟨pa, 0, none⟩ = some (.int .i64 N) ∧ Z.cell? ⟨pa, 1, none⟩ = some (.slice ga gk gc)) ∧ Z.cell? ⟨pb, 0, none⟩ = some (.int .i64 N) ∧ Z.cell? ⟨pb, 1, none⟩ = some (.slice ra rk rc)) := fun Z k => ⟨HS.out Z (KC.trans k), ⟨k.cel (at_cell FA 0 _ rfl), k.cel (at_cell FA 1 _ rfl)⟩, k.cel (at_cell FB 0 _ rfl), k.cel (at_cell FB 1 _ rfl)⟩
      have HE7 := Lib.hid (HE.out.kept (HKA.out.trans KC))
      have HSO7 := Lib.hid (HSO.out.kept KC)
      have HKW := Lib.hid (HKA.out.trans KC)
      clear HS HSh HRs FA FB hSg hSr KC HKC
      generalize wc = V7 at *
      --REGION7
      go_upto_region 7 with fail
      have KD : Kept V7 V7.drew := (Kept.refl _).dr ⟨1, rfl⟩
      refine wp_region_held_drew (S := (fun Z => ((Z.cell? ⟨bx, 0, none⟩ = some (.int .i64 N) ∧ Z.cell? ⟨bx, 1, none⟩ = some (.slice s m c)) ∧ Z.cell? ⟨bo, 0, none⟩ = some (.int .i64 N) ∧ Z.cell? ⟨bo, 1, none⟩ = some (.slice oa m oc)) ∧ (Z.cell? ⟨pa, 0, none⟩ = some (.int .i64 N) ∧ Z.cell? ⟨pa, 1, none⟩ = some (.slice ga gk gc)) ∧ Z.cell? ⟨pb, 0, none⟩ = some (.int .i64 N) ∧ Z.cell? ⟨pb, 1, none⟩ = some (.slice ra rk rc))) (by kernel_rfl) (by exact HS7.out _ KD) (fun hHeld => ?_)
      apply wpAnyH_take (i := 0)
      case hi => (simp only [List.getElem?_toArray, List.getElem?_cons_succ, List.getElem?_cons_zero]; rfl)
      case hs => kernel_rfl
      case hf => kernel_rfl
      case hr => kernel_rfl
      case hQ => exact fun _ _ _ h => h
      case hy => (refine Or.inl ⟨by rfl, ?_⟩; (intro w' hSw; (try dsimp only at hSw); go_simp) <;> with_reducible rfl)
      case hS => assumption
      try simp only [Act.put, List.setIfInBounds_toArray, List.set_cons_zero, List.set_cons_succ]
      apply wpAnyH_take (i := 2)
      case hi => (simp only [List.getElem?_toArray, List.getElem?_cons_succ, List.getElem?_cons_zero]; rfl)
      case hs => kernel_rfl
      case hf => kernel_rfl
      case hr => kernel_rfl
      case hQ => exact fun _ _ _ h => h
      case hy => (refine Or.inl ⟨by rfl, ?_⟩; (intro w' hSw; (try dsimp only at hSw); go_simp) <;> with_reducible rfl)
      case hS => assumption
      try simp only [Act.put, List.setIfInBounds_toArray, List.set_cons_zero, List.set_cons_succ]
      refine wpAnyH_ready (rs := [1]) (by kernel_rfl) (by simp) ?_
      apply AllReadyH.cons
      case ho => (simp only [List.getElem?_toArray, List.getElem?_cons_succ, List.getElem?_cons_zero]; rfl)
      case hs => exact AllReadyH.nil
      intro K hK
      go_simp
      (go_at_call 9; refine (g_good N (HE7.out.kept KD) (by omega)).mono ?_; rintro E1 Y1 ⟨rfl, J⟩; replace KD := KD.trans J; clear J)
      refine hK.out _ _ (by exact HS7.out _ KD) (fun hHeld => ?_)
      clear hK K
      try simp only [Act.put, List.setIfInBounds_toArray, List.set_cons_zero, List.set_cons_succ]
      refine wpAnyH_ready (rs := [3]) (by kernel_rfl) (by simp) ?_
      apply AllReadyH.cons
      case ho => (simp only [List.getElem?_toArray, List.getElem?_cons_succ, List.getElem?_cons_zero]; rfl)
      case hs => exact AllReadyH.nil
      intro K hK
      go_simp
      (go_at_call 19; refine (r_good N (HSO7.out.kept KD) (by omega)).mono ?_; rintro E3 Y3 ⟨rfl, J⟩; replace KD := KD.trans J; clear J)
      refine hK.out _ _ (by exact HS7.out _ KD) (fun hHeld => ?_)
      clear hK K
      try simp only [Act.put, List.setIfInBounds_toArray, List.set_cons_zero, List.set_cons_succ]
      apply wpAnyH_take (i := 4)
      case hi => (simp only [List.getElem?_toArray, List.getElem?_cons_succ, List.getElem?_cons_zero]; rfl)
      case hs => kernel_rfl
      case hf => kernel_rfl
      case hr => kernel_rfl
      case hQ => exact fun _ _ _ h => h
      case hy => (refine Or.inl ⟨by rfl, ?_⟩; (intro w' hSw; (try dsimp only at hSw); go_simp) <;> with_reducible rfl)
      case hS => assumption
      try simp only [Act.put, List.setIfInBounds_toArray, List.set_cons_zero, List.set_cons_succ]
      apply wpAnyH_take (i := 5)
      case hi => (simp only [List.getElem?_toArray, List.getElem?_cons_succ, List.getElem?_cons_zero]; rfl)
      case hs => kernel_rfl
      case hf => kernel_rfl
      case hr => kernel_rfl
      case hQ => exact fun _ _ _ h => h
      case hy => (refine Or.inl ⟨by rfl, ?_⟩; (intro w' hSw; (try dsimp only at hSw); go_simp) <;> with_reducible rfl)
      case hS => assumption
      try simp only [Act.put, List.setIfInBounds_toArray, List.set_cons_zero, List.set_cons_succ]
      apply wpAnyH_take (i := 6)
      case hi => (simp only [List.getElem?_toArray, List.getElem?_cons_succ, List.getElem?_cons_zero]; rfl)
      case hs => kernel_rfl
      case hf => kernel_rfl
      case hr => kernel_rfl
      case hQ => exact fun _ _ _ h => h
      case hy => (refine Or.inl ⟨by rfl, ?_⟩; (intro w' hSw; (try dsimp only at hSw); go_simp) <;> with_reducible rfl)
      case hS => assumption
      try simp only [Act.put, List.setIfInBounds_toArray, List.set_cons_zero, List.set_cons_succ]
      apply wpAnyH_take (i := 8)
      case hi => (simp only [List.getElem?_toArray, List.getElem?_cons_succ, List.getElem?_cons_zero]; rfl)
      case hs => kernel_rfl
      case hf => kernel_rfl
      case hr => kernel_rfl
      case hQ => exact fun _ _ _ h => h
      case hy => (refine Or.inl ⟨by rfl, ?_⟩; (intro w' hSw; (try dsimp only at hSw); go_simp) <;> with_reducible rfl)
      case hS => assumption
      try simp only [Act.put, List.setIfInBounds_toArray, List.set_cons_zero, List.set_cons_succ]
      refine wpAnyH_ready (rs := [7]) (by kernel_rfl) (by simp) ?_
      apply AllReadyH.cons
      case ho => (simp only [List.getElem?_toArray, List.getElem?_cons_succ, List.getElem?_cons_zero]; rfl)
      case hs => exact AllReadyH.nil
      intro K hK
      go_simp
      (go_at_call 10; refine (g_cycle N (HE7.out.kept KD) (by omega)).mono ?_; rintro E7 Y7 ⟨a7, k7, q7, rfl, hS, J, hk7, -⟩; have HA := Lib.hid hS; clear hS; replace KD := KD.trans J; clear J)
      refine hK.out _ _ (by exact HS7.out _ KD) (fun hHeld => ?_)
      clear hK K
      try simp only [Act.put, List.setIfInBounds_toArray, List.set_cons_zero, List.set_cons_succ]
      refine wpAnyH_ready (rs := [9]) (by kernel_rfl) (by simp) ?_
      apply AllReadyH.cons
      case ho => (simp only [List.getElem?_toArray, List.getElem?_cons_succ, List.getElem?_cons_zero]; rfl)
      case hs => exact AllReadyH.nil
      intro K hK
      go_simp
      (go_at_call 20; refine (r_cycle N (HSO7.out.kept KD) (by omega)).mono ?_; rintro E9 Y9 ⟨a9, k9, q9, rfl, hS, J, hk9, -⟩; replace HA := Lib.hid (J.sl HA.out); have HB := Lib.hid hS; clear hS; replace KD := KD.trans J; clear J)
      refine hK.out _ _ (by exact HS7.out _ KD) (fun hHeld => ?_)
      clear hK K
      try simp only [Act.put, List.setIfInBounds_toArray, List.set_cons_zero, List.set_cons_succ]
      refine wpAnyH_ready (rs := [10]) (by kernel_rfl) (by simp) ?_
      apply AllReadyH.cons
      case ho => (simp only [List.getElem?_toArray, List.getElem?_cons_succ, List.getElem?_cons_zero]; rfl)
      case hs => exact AllReadyH.nil
      intro K hK
      go_simp
      (go_at_call 12; refine (ints_law HA.out HB.out (by omega) (by omega)).mono ?_; rintro E10 Y10 ⟨h, J⟩; rw [beq_self_eq_true] at h; subst h; clear HA HB; replace KD := KD.dr J; clear J)
      refine hK.out _ _ (by exact HS7.out _ KD) (fun hHeld => ?_)
      clear hK K
      try simp only [Act.put, List.setIfInBounds_toArray, List.set_cons_zero, List.set_cons_succ]
      apply wpAnyH_take (i := 11)
      case hi => (simp only [List.getElem?_toArray, List.getElem?_cons_succ, List.getElem?_cons_zero]; rfl)
      case hs => kernel_rfl
      case hf => kernel_rfl
      case hr => kernel_rfl
      case hQ => exact fun _ _ _ h => h
      case hy => (refine Or.inl ⟨by rfl, ?_⟩; (intro w' hSw; (try dsimp only at hSw); go_simp) <;> with_reducible rfl)
      case hS => assumption
      try simp only [Act.put, List.setIfInBounds_toArray, List.set_cons_zero, List.set_cons_succ]
      apply wpAnyH_take (i := 12)
      case hi => (simp only [List.getElem?_toArray, List.getElem?_cons_succ, List.getElem?_cons_zero]; rfl)
      case hs => kernel_rfl
      case hf => kernel_rfl
      case hr => kernel_rfl
      case hQ => exact fun _ _ _ h => h
      case hy => (refine Or.inl ⟨by rfl, ?_⟩; (intro w' hSw; (try dsimp only at hSw); go_simp) <;> with_reducible rfl)
      case hS => assumption
      try simp only [Act.put, List.setIfInBounds_toArray, List.set_cons_zero, List.set_cons_succ]
      apply wpAnyH_take (i := 13)
      case hi => (simp only [List.getElem?_toArray, List.getElem?_cons_succ, List.getElem?_cons_zero]; rfl)
      case hs => kernel_rfl
      case hf => kernel_rfl
      case hr => kernel_rfl
      case hQ => exact fun _ _ _ h => h
      case hy => (refine Or.inl ⟨by rfl, ?_⟩; (intro w' hSw; (try dsimp only at hSw); go_simp) <;> with_reducible rfl)
      case hS => assumption
      try simp only [Act.put, List.setIfInBounds_toArray, List.set_cons_zero, List.set_cons_succ]
      apply wpAnyH_take (i := 14)
      case hi => (simp only [List.getElem?_toArray, List.getElem?_cons_succ, List.getElem?_cons_zero]; rfl)
      case hs => kernel_rfl
      case hf => kernel_rfl
      case hr => kernel_rfl
      case hQ => exact fun _ _ _ h => h
      case hy => (refine Or.inl ⟨by rfl, ?_⟩; (intro w' hSw; (try dsimp only at hSw); go_simp) <;> with_reducible rfl)
      case hS => assumption
      try simp only [Act.put, List.setIfInBounds_toArray, List.set_cons_zero, List.set_cons_succ]
      apply wpAnyH_take (i := 16)
      case hi => (simp only [List.getElem?_toArray, List.getElem?_cons_succ, List.getElem?_cons_zero]; rfl)
      case hs => kernel_rfl
      case hf => kernel_rfl
      case hr => kernel_rfl
      case hQ => exact fun _ _ _ h => h
      case hy => (refine Or.inl ⟨by rfl, ?_⟩; (intro w' hSw; (try dsimp only at hSw); go_simp) <;> with_reducible rfl)
      case hS => assumption
      try simp only [Act.put, List.setIfInBounds_toArray, List.set_cons_zero, List.set_cons_succ]
      apply wpAnyH_take (i := 17)
      case hi => (simp only [List.getElem?_toArray, List.getElem?_cons_succ, List.getElem?_cons_zero]; rfl)
      case hs => kernel_rfl
      case hf => kernel_rfl
      case hr => kernel_rfl
      case hQ => exact fun _ _ _ h => h
      case hy => (refine Or.inl ⟨by rfl, ?_⟩; (intro w' hSw; (try dsimp only at hSw); go_simp) <;> with_reducible rfl)
      case hS => assumption
      try simp only [Act.put, List.setIfInBounds_toArray, List.set_cons_zero, List.set_cons_succ]
      refine wpAnyH_ready (rs := [15]) (by kernel_rfl) (by simp) ?_
      apply AllReadyH.cons
      case ho => (simp only [List.getElem?_toArray, List.getElem?_cons_succ, List.getElem?_cons_zero]; rfl)
      case hs => exact AllReadyH.nil
      intro K hK
      go_simp
      (go_at_call 15; refine (g_ahead N x1 (HE7.out.kept KD) (by omega)).mono ?_; rintro E15 Y15 ⟨a15, k15, q15, rfl, hS, J, hk15, -⟩; have HA := Lib.hid hS; clear hS; replace KD := KD.trans J; clear J)
      refine hK.out _ _ (by exact HS7.out _ KD) (fun hHeld => ?_)
      clear hK K
      try simp only [Act.put, List.setIfInBounds_toArray, List.set_cons_zero, List.set_cons_succ]
      refine wpAnyH_ready (rs := [18]) (by kernel_rfl) (by simp) ?_
      apply AllReadyH.cons
      case ho => (simp only [List.getElem?_toArray, List.getElem?_cons_succ, List.getElem?_cons_zero]; rfl)
      case hs => exact AllReadyH.nil
      intro K hK
      go_simp
      (go_at_call 21; refine (r_ahead N x1 (HSO7.out.kept KD) (by omega)).mono ?_; rintro E18 Y18 ⟨a18, k18, q18, rfl, hS, J, hk18, -⟩; replace HA := Lib.hid (J.sl HA.out); have HB := Lib.hid hS; clear hS; replace KD := KD.trans J; clear J)
      refine hK.out _ _ (by exact HS7.out _ KD) (fun hHeld => ?_)
      clear hK K
      try simp only [Act.put, List.setIfInBounds_toArray, List.set_cons_zero, List.set_cons_succ]
      refine wpAnyH_ready (rs := [19]) (by kernel_rfl) (by simp) ?_
      apply AllReadyH.cons
      case ho => (simp only [List.getElem?_toArray, List.getElem?_cons_succ, List.getElem?_cons_zero]; rfl)
      case hs => exact AllReadyH.nil
      intro K hK
      go_simp
      (go_at_call 12; refine (ints_law HA.out HB.out (by omega) (by omega)).mono ?_; rintro E19 Y19 ⟨h, J⟩; rw [beq_self_eq_true] at h; subst h; clear HA HB; replace KD := KD.dr J; clear J)
      refine hK.out _ _ (by exact HS7.out _ KD) (fun hHeld => ?_)
      clear hK K
      try simp only [Act.put, List.setIfInBounds_toArray, List.set_cons_zero, List.set_cons_succ]
      apply wpAnyH_take (i := 20)
      case hi => (simp only [List.getElem?_toArray, List.getElem?_cons_succ, List.getElem?_cons_zero]; rfl)
      case hs => kernel_rfl
      case hf => kernel_rfl
      case hr => kernel_rfl
      case hQ => exact fun _ _ _ h => h
      case hy => (refine Or.inl ⟨by rfl, ?_⟩; (intro w' hSw; (try dsimp only at hSw); go_simp) <;> with_reducible rfl)
      case hS => assumption
      try simp only [Act.put, List.setIfInBounds_toArray, List.set_cons_zero, List.set_cons_succ]
      apply wpAnyH_take (i := 21)
      case hi => (simp only [List.getElem?_toArray, List.getElem?_cons_succ, List.getElem?_cons_zero]; rfl)
      case hs => kernel_rfl
      case hf => kernel_rfl
      case hr => kernel_rfl
      case hQ => exact fun _ _ _ h => h
      case hy => (refine Or.inl ⟨by rfl, ?_⟩; (intro w' hSw; (try dsimp only at hSw); go_simp) <;> with_reducible rfl)
      case hS => assumption
      try simp only [Act.put, List.setIfInBounds_toArray, List.set_cons_zero, List.set_cons_succ]
      apply wpAnyH_take (i := 22)
      case hi => (simp only [List.getElem?_toArray, List.getElem?_cons_succ, List.getElem?_cons_zero]; rfl)
      case hs => kernel_rfl
      case hf => kernel_rfl
      case hr => kernel_rfl
      case hQ => exact fun _ _ _ h => h
      case hy => (refine Or.inl ⟨by rfl, ?_⟩; (intro w' hSw; (try dsimp only at hSw); go_simp) <;> with_reducible rfl)
      case hS => assumption
      try simp only [Act.put, List.setIfInBounds_toArray, List.set_cons_zero, List.set_cons_succ]
      apply wpAnyH_take (i := 23)
      case hi => (simp only [List.getElem?_toArray, List.getElem?_cons_succ, List.getElem?_cons_zero]; rfl)
      case hs => kernel_rfl
      case hf => kernel_rfl
      case hr => kernel_rfl
      case hQ => exact fun _ _ _ h => h
      case hy => (refine Or.inl ⟨by rfl, ?_⟩; (intro w' hSw; (try dsimp only at hSw); go_simp) <;> with_reducible rfl)
      case hS => assumption
      try simp only [Act.put, List.setIfInBounds_toArray, List.set_cons_zero, List.set_cons_succ]
      apply wpAnyH_take (i := 25)
      case hi => (simp only [List.getElem?_toArray, List.getElem?_cons_succ, List.getElem?_cons_zero]; rfl)
      case hs => kernel_rfl
      case hf => kernel_rfl
      case hr => kernel_rfl
      case hQ => exact fun _ _ _ h => h
      case hy => (refine Or.inl ⟨by rfl, ?_⟩; (intro w' hSw; (try dsimp only at hSw); go_simp) <;> with_reducible rfl)
      case hS => assumption
      try simp only [Act.put, List.setIfInBounds_toArray, List.set_cons_zero, List.set_cons_succ]
      apply wpAnyH_take (i := 26)
      case hi => (simp only [List.getElem?_toArray, List.getElem?_cons_succ, List.getElem?_cons_zero]; rfl)
      case hs => kernel_rfl
      case hf => kernel_rfl
      case hr => kernel_rfl
      case hQ => exact fun _ _ _ h => h
      case hy => (refine Or.inl ⟨by rfl, ?_⟩; (intro w' hSw; (try dsimp only at hSw); go_simp) <;> with_reducible rfl)
      case hS => assumption
      try simp only [Act.put, List.setIfInBounds_toArray, List.set_cons_zero, List.set_cons_succ]
      refine wpAnyH_ready (rs := [24]) (by kernel_rfl) (by simp) ?_
      apply AllReadyH.cons
      case ho => (simp only [List.getElem?_toArray, List.getElem?_cons_succ, List.getElem?_cons_zero]; rfl)
      case hs => exact AllReadyH.nil
      intro K hK
      go_simp
      (go_at_call 14; refine (g_behind N x1 (HE7.out.kept KD) (by omega)).mono ?_; rintro E24 Y24 ⟨a24, k24, q24, rfl, hS, J, hk24, -⟩; have HA := Lib.hid hS; clear hS; replace KD := KD.trans J; clear J)
      refine hK.out _ _ (by exact HS7.out _ KD) (fun hHeld => ?_)
      clear hK K
      try simp only [Act.put, List.setIfInBounds_toArray, List.set_cons_zero, List.set_cons_succ]
      refine wpAnyH_ready (rs := [27]) (by kernel_rfl) (by simp) ?_
      apply AllReadyH.cons
      case ho => (simp only [List.getElem?_toArray, List.getElem?_cons_succ, List.getElem?_cons_zero]; rfl)
      case hs => exact AllReadyH.nil
      intro K hK
      go_simp
      (go_at_call 22; refine (r_behind N x1 (HSO7.out.kept KD) (by omega)).mono ?_; rintro E27 Y27 ⟨a27, k27, q27, rfl, hS, J, hk27, -⟩; replace HA := Lib.hid (J.sl HA.out); have HB := Lib.hid hS; clear hS; replace KD := KD.trans J; clear J)
      refine hK.out _ _ (by exact HS7.out _ KD) (fun hHeld => ?_)
      clear hK K
      try simp only [Act.put, List.setIfInBounds_toArray, List.set_cons_zero, List.set_cons_succ]
      refine wpAnyH_ready (rs := [28]) (by kernel_rfl) (by simp) ?_
      apply AllReadyH.cons
      case ho => (simp only [List.getElem?_toArray, List.getElem?_cons_succ, List.getElem?_cons_zero]; rfl)
      case hs => exact AllReadyH.nil
      intro K hK
      go_simp
      (go_at_call 12; refine (ints_law HA.out HB.out (by omega) (by omega)).mono ?_; rintro E28 Y28 ⟨h, J⟩; rw [beq_self_eq_true] at h; subst h; clear HA HB; replace KD := KD.dr J; clear J)
      refine hK.out _ _ (by exact HS7.out _ KD) (fun hHeld => ?_)
      clear hK K
      try simp only [Act.put, List.setIfInBounds_toArray, List.set_cons_zero, List.set_cons_succ]
      apply wpAnyH_take (i := 29)
      case hi => (simp only [List.getElem?_toArray, List.getElem?_cons_succ, List.getElem?_cons_zero]; rfl)
      case hs => kernel_rfl
      case hf => kernel_rfl
      case hr => kernel_rfl
      case hQ => exact fun _ _ _ h => h
      case hy => (refine Or.inl ⟨by rfl, ?_⟩; (intro w' hSw; (try dsimp only at hSw); go_simp) <;> with_reducible rfl)
      case hS => assumption
      try simp only [Act.put, List.setIfInBounds_toArray, List.set_cons_zero, List.set_cons_succ]
      apply wpAnyH_take (i := 30)
      case hi => (simp only [List.getElem?_toArray, List.getElem?_cons_succ, List.getElem?_cons_zero]; rfl)
      case hs => kernel_rfl
      case hf => kernel_rfl
      case hr => kernel_rfl
      case hQ => exact fun _ _ _ h => h
      case hy => (refine Or.inl ⟨by rfl, ?_⟩; (intro w' hSw; (try dsimp only at hSw); go_simp) <;> with_reducible rfl)
      case hS => assumption
      try simp only [Act.put, List.setIfInBounds_toArray, List.set_cons_zero, List.set_cons_succ]
      apply wpAnyH_take (i := 31)
      case hi => (simp only [List.getElem?_toArray, List.getElem?_cons_succ, List.getElem?_cons_zero]; rfl)
      case hs => kernel_rfl
      case hf => kernel_rfl
      case hr => kernel_rfl
      case hQ => exact fun _ _ _ h => h
      case hy => (refine Or.inl ⟨by rfl, ?_⟩; (intro w' hSw; (try dsimp only at hSw); go_simp) <;> with_reducible rfl)
      case hS => assumption
      try simp only [Act.put, List.setIfInBounds_toArray, List.set_cons_zero, List.set_cons_succ]
      apply wpAnyH_take (i := 32)
      case hi => (simp only [List.getElem?_toArray, List.getElem?_cons_succ, List.getElem?_cons_zero]; rfl)
      case hs => kernel_rfl
      case hf => kernel_rfl
      case hr => kernel_rfl
      case hQ => exact fun _ _ _ h => h
      case hy => (refine Or.inl ⟨by rfl, ?_⟩; (intro w' hSw; (try dsimp only at hSw); go_simp) <;> with_reducible rfl)
      case hS => assumption
      try simp only [Act.put, List.setIfInBounds_toArray, List.set_cons_zero, List.set_cons_succ]
      apply wpAnyH_take (i := 34)
      case hi => (simp only [List.getElem?_toArray, List.getElem?_cons_succ, List.getElem?_cons_zero]; rfl)
      case hs => kernel_rfl
      case hf => kernel_rfl
      case hr => kernel_rfl
      case hQ => exact fun _ _ _ h => h
      case hy => (refine Or.inl ⟨by rfl, ?_⟩; (intro w' hSw; (try dsimp only at hSw); go_simp) <;> with_reducible rfl)
      case hS => assumption
      try simp only [Act.put, List.setIfInBounds_toArray, List.set_cons_zero, List.set_cons_succ]
      apply wpAnyH_take (i := 35)
      case hi => (simp only [List.getElem?_toArray, List.getElem?_cons_succ, List.getElem?_cons_zero]; rfl)
      case hs => kernel_rfl
      case hf => kernel_rfl
      case hr => kernel_rfl
      case hQ => exact fun _ _ _ h => h
      case hy => (refine Or.inl ⟨by rfl, ?_⟩; (intro w' hSw; (try dsimp only at hSw); go_simp) <;> with_reducible rfl)
      case hS => assumption
      try simp only [Act.put, List.setIfInBounds_toArray, List.set_cons_zero, List.set_cons_succ]
      refine wpAnyH_ready (rs := [33]) (by kernel_rfl) (by simp) ?_
      apply AllReadyH.cons
      case ho => (simp only [List.getElem?_toArray, List.getElem?_cons_succ, List.getElem?_cons_zero]; rfl)
      case hs => exact AllReadyH.nil
      intro K hK
      go_simp
      (go_at_call 13; refine (g_reach N x1 (HE7.out.kept KD) (by omega)).mono ?_; rintro E33 Y33 ⟨a33, k33, q33, rfl, hS, J, hk33, -⟩; have HA := Lib.hid hS; clear hS; replace KD := KD.trans J; clear J)
      refine hK.out _ _ (by exact HS7.out _ KD) (fun hHeld => ?_)
      clear hK K
      try simp only [Act.put, List.setIfInBounds_toArray, List.set_cons_zero, List.set_cons_succ]
      refine wpAnyH_ready (rs := [36]) (by kernel_rfl) (by simp) ?_
      apply AllReadyH.cons
      case ho => (simp only [List.getElem?_toArray, List.getElem?_cons_succ, List.getElem?_cons_zero]; rfl)
      case hs => exact AllReadyH.nil
      intro K hK
      go_simp
      (go_at_call 23; refine (r_reach N x1 (HSO7.out.kept KD) (by omega)).mono ?_; rintro E36 Y36 ⟨a36, k36, q36, rfl, hS, J, hk36, -⟩; replace HA := Lib.hid (J.sl HA.out); have HB := Lib.hid hS; clear hS; replace KD := KD.trans J; clear J)
      refine hK.out _ _ (by exact HS7.out _ KD) (fun hHeld => ?_)
      clear hK K
      try simp only [Act.put, List.setIfInBounds_toArray, List.set_cons_zero, List.set_cons_succ]
      refine wpAnyH_ready (rs := [37]) (by kernel_rfl) (by simp) ?_
      apply AllReadyH.cons
      case ho => (simp only [List.getElem?_toArray, List.getElem?_cons_succ, List.getElem?_cons_zero]; rfl)
      case hs => exact AllReadyH.nil
      intro K hK
      go_simp
      (go_at_call 12; refine (ints_law HA.out HB.out (by omega) (by omega)).mono ?_; rintro E37 Y37 ⟨h, J⟩; rw [beq_self_eq_true] at h; subst h; clear HA HB; replace KD := KD.dr J; clear J)
      refine hK.out _ _ (by exact HS7.out _ KD) (fun hHeld => ?_)
      clear hK K
      try simp only [Act.put, List.setIfInBounds_toArray, List.set_cons_zero, List.set_cons_succ]
      apply wpAnyH_take (i := 38)
      case hi => (simp only [List.getElem?_toArray, List.getElem?_cons_succ, List.getElem?_cons_zero]; rfl)
      case hs => kernel_rfl
      case hf => kernel_rfl
      case hr => kernel_rfl
      case hQ => exact fun _ _ _ h => h
      case hy => (refine Or.inl ⟨by rfl, ?_⟩; (intro w' hSw; (try dsimp only at hSw); go_simp) <;> with_reducible rfl)
      case hS => assumption
      try simp only [Act.put, List.setIfInBounds_toArray, List.set_cons_zero, List.set_cons_succ]
      apply wpAnyH_take (i := 39)
      case hi => (simp only [List.getElem?_toArray, List.getElem?_cons_succ, List.getElem?_cons_zero]; rfl)
      case hs => kernel_rfl
      case hf => kernel_rfl
      case hr => kernel_rfl
      case hQ => exact fun _ _ _ h => h
      case hy => (refine Or.inl ⟨by rfl, ?_⟩; (intro w' hSw; (try dsimp only at hSw); go_simp) <;> with_reducible rfl)
      case hS => assumption
      try simp only [Act.put, List.setIfInBounds_toArray, List.set_cons_zero, List.set_cons_succ]
      apply wpAnyH_take (i := 40)
      case hi => (simp only [List.getElem?_toArray, List.getElem?_cons_succ, List.getElem?_cons_zero]; rfl)
      case hs => kernel_rfl
      case hf => kernel_rfl
      case hr => kernel_rfl
      case hQ => exact fun _ _ _ h => h
      case hy => (refine Or.inl ⟨by rfl, ?_⟩; (intro w' hSw; (try dsimp only at hSw); go_simp) <;> with_reducible rfl)
      case hS => assumption
      try simp only [Act.put, List.setIfInBounds_toArray, List.set_cons_zero, List.set_cons_succ]
      apply wpAnyH_take (i := 41)
      case hi => (simp only [List.getElem?_toArray, List.getElem?_cons_succ, List.getElem?_cons_zero]; rfl)
      case hs => kernel_rfl
      case hf => kernel_rfl
      case hr => kernel_rfl
      case hQ => exact fun _ _ _ h => h
      case hy => (refine Or.inl ⟨by rfl, ?_⟩; (intro w' hSw; (try dsimp only at hSw); go_simp) <;> with_reducible rfl)
      case hS => assumption
      try simp only [Act.put, List.setIfInBounds_toArray, List.set_cons_zero, List.set_cons_succ]
      apply wpAnyH_take (i := 42)
      case hi => (simp only [List.getElem?_toArray, List.getElem?_cons_succ, List.getElem?_cons_zero]; rfl)
      case hs => kernel_rfl
      case hf => kernel_rfl
      case hr => kernel_rfl
      case hQ => exact fun _ _ _ h => h
      case hy => (refine Or.inl ⟨by rfl, ?_⟩; (intro w' hSw; (try dsimp only at hSw); go_simp) <;> with_reducible rfl)
      case hS => assumption
      try simp only [Act.put, List.setIfInBounds_toArray, List.set_cons_zero, List.set_cons_succ]
      apply wpAnyH_take (i := 43)
      case hi => (simp only [List.getElem?_toArray, List.getElem?_cons_succ, List.getElem?_cons_zero]; rfl)
      case hs => kernel_rfl
      case hf => kernel_rfl
      case hr => kernel_rfl
      case hQ => exact fun _ _ _ h => h
      case hy => (refine Or.inl ⟨by rfl, ?_⟩; (intro w' hSw; (try dsimp only at hSw); go_simp) <;> with_reducible rfl)
      case hS => assumption
      try simp only [Act.put, List.setIfInBounds_toArray, List.set_cons_zero, List.set_cons_succ]
      apply wpAnyH_take (i := 44)
      case hi => (simp only [List.getElem?_toArray, List.getElem?_cons_succ, List.getElem?_cons_zero]; rfl)
      case hs => kernel_rfl
      case hf => kernel_rfl
      case hr => kernel_rfl
      case hQ => exact fun _ _ _ h => h
      case hy => (refine Or.inl ⟨by rfl, ?_⟩; (intro w' hSw; (try dsimp only at hSw); go_simp) <;> with_reducible rfl)
      case hS => assumption
      try simp only [Act.put, List.setIfInBounds_toArray, List.set_cons_zero, List.set_cons_succ]
      apply wpAnyH_take (i := 45)
      case hi => (simp only [List.getElem?_toArray, List.getElem?_cons_succ, List.getElem?_cons_zero]; rfl)
      case hs => kernel_rfl
      case hf => kernel_rfl
      case hr => kernel_rfl
      case hQ => exact fun _ _ _ h => h
      case hy => (refine Or.inl ⟨by rfl, ?_⟩; (intro w' hSw; (try dsimp only at hSw); go_simp) <;> with_reducible rfl)
      case hS => assumption
      try simp only [Act.put, List.setIfInBounds_toArray, List.set_cons_zero, List.set_cons_succ]
      apply wpAnyH_take (i := 46)
      case hi => (simp only [List.getElem?_toArray, List.getElem?_cons_succ, List.getElem?_cons_zero]; rfl)
      case hs => kernel_rfl
      case hf => kernel_rfl
      case hr => kernel_rfl
      case hQ => exact fun _ _ _ h => h
      case hy => (refine Or.inl ⟨by rfl, ?_⟩; (intro w' hSw; (try dsimp only at hSw); go_simp) <;> with_reducible rfl)
      case hS => assumption
      try simp only [Act.put, List.setIfInBounds_toArray, List.set_cons_zero, List.set_cons_succ]
      apply wpAnyH_take (i := 47)
      case hi => (simp only [List.getElem?_toArray, List.getElem?_cons_succ, List.getElem?_cons_zero]; rfl)
      case hs => kernel_rfl
      case hf => kernel_rfl
      case hr => kernel_rfl
      case hQ => exact fun _ _ _ h => h
      case hy => (refine Or.inl ⟨by rfl, ?_⟩; (intro w' hSw; (try dsimp only at hSw); go_simp) <;> with_reducible rfl)
      case hS => assumption
      try simp only [Act.put, List.setIfInBounds_toArray, List.set_cons_zero, List.set_cons_succ]
      apply wpAnyH_take (i := 48)
      case hi => (simp only [List.getElem?_toArray, List.getElem?_cons_succ, List.getElem?_cons_zero]; rfl)
      case hs => kernel_rfl
      case hf => kernel_rfl
      case hr => kernel_rfl
      case hQ => exact fun _ _ _ h => h
      case hy => (refine Or.inl ⟨by rfl, ?_⟩; (intro w' hSw; (try dsimp only at hSw); go_simp) <;> with_reducible rfl)
      case hS => assumption
      try simp only [Act.put, List.setIfInBounds_toArray, List.set_cons_zero, List.set_cons_succ]
      apply wpAnyH_take (i := 49)
      case hi => (simp only [List.getElem?_toArray, List.getElem?_cons_succ, List.getElem?_cons_zero]; rfl)
      case hs => kernel_rfl
      case hf => kernel_rfl
      case hr => kernel_rfl
      case hQ => exact fun _ _ _ h => h
      case hy => (refine Or.inl ⟨by rfl, ?_⟩; (intro w' hSw; (try dsimp only at hSw); go_simp) <;> with_reducible rfl)
      case hS => assumption
      try simp only [Act.put, List.setIfInBounds_toArray, List.set_cons_zero, List.set_cons_succ]
      apply wpAnyH_take (i := 50)
      case hi => (simp only [List.getElem?_toArray, List.getElem?_cons_succ, List.getElem?_cons_zero]; rfl)
      case hs => kernel_rfl
      case hf => kernel_rfl
      case hr => kernel_rfl
      case hQ => exact fun _ _ _ h => h
      case hy => (refine Or.inl ⟨by rfl, ?_⟩; (intro w' hSw; (try dsimp only at hSw); go_simp) <;> with_reducible rfl)
      case hS => assumption
      try simp only [Act.put, List.setIfInBounds_toArray, List.set_cons_zero, List.set_cons_succ]
      refine wpAnyH_ready (rs := [51]) (by kernel_rfl) (by simp) ?_
      apply AllReadyH.cons
      case ho => (simp only [List.getElem?_toArray, List.getElem?_cons_succ, List.getElem?_cons_zero]; rfl)
      case hs => exact AllReadyH.nil
      intro K hK
      go_simp
      (go_at_call 24; refine (edges_law (HSg.out.kept KD) (HSr.out.kept KD) (by omega) (by omega)).mono ?_; rintro E51 Y51 ⟨h, J⟩; rw [beq_self_eq_true] at h; subst h; replace KD := KD.dr J; clear J)
      refine hK.out _ _ (by exact HS7.out _ KD) (fun hHeld => ?_)
      clear hK K
      try simp only [Act.put, List.setIfInBounds_toArray, List.set_cons_zero, List.set_cons_succ]
      apply wpAnyH_take (i := 52)
      case hi => (simp only [List.getElem?_toArray, List.getElem?_cons_succ, List.getElem?_cons_zero]; rfl)
      case hs => kernel_rfl
      case hf => kernel_rfl
      case hr => kernel_rfl
      case hQ => exact fun _ _ _ h => h
      case hy => (refine Or.inl ⟨by rfl, ?_⟩; (intro w' hSw; (try dsimp only at hSw); go_simp) <;> with_reducible rfl)
      case hS => assumption
      try simp only [Act.put, List.setIfInBounds_toArray, List.set_cons_zero, List.set_cons_succ]
      apply wpAnyH_take (i := 53)
      case hi => (simp only [List.getElem?_toArray, List.getElem?_cons_succ, List.getElem?_cons_zero]; rfl)
      case hs => kernel_rfl
      case hf => kernel_rfl
      case hr => kernel_rfl
      case hQ => exact fun _ _ _ h => h
      case hy => (refine Or.inl ⟨by rfl, ?_⟩; (intro w' hSw; (try dsimp only at hSw); go_simp) <;> with_reducible rfl)
      case hS => assumption
      try simp only [Act.put, List.setIfInBounds_toArray, List.set_cons_zero, List.set_cons_succ]
      refine wpAnyH_done (by kernel_rfl) ?_ _
      go_wp2_with fail
      go_ret
      exact ⟨rfl, HKW.out.trans KD⟩
  · have g1 : (60 : Int) < m := by omega
    go_wp2_with fail
    go_ret
    exact ⟨rfl, HK1.out⟩
end Go.Proofs.Ytboohafebkkdbaa
