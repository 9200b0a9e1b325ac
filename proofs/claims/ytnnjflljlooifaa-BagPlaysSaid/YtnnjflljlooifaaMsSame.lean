/- msg.Same tells whether all fields are alike. Printed by gen_mssame.py. -/
import Derived.Test.YtnnjflljlooifaaMsSame2
import Derived.Deep.CutRange
set_option linter.unusedVariables false
set_option linter.unusedSimpArgs false
namespace Go.Proofs.Ytnnjflljlooifaa
open Go.RowKit
/-- are all fields alike? -/
def sameM (m m' : MV) (L L' : List (Int × List Int)) (T T' : List Int) : Bool := decide (m.k = m'.k ∧ m.f = m'.f ∧ m.t = m'.t ∧ m.e = m'.e ∧ m.o = m'.o ∧ m.p = m'.p ∧ m.te = m'.te ∧ T = T' ∧ L = L')
set_option maxRecDepth 100000 in
set_option maxHeartbeats 4000000 in
theorem msg_same (m m' : MV) (R R' : List RV) (L L' : List (Int × List Int)) (T T' : List Int) (w : World) (hQ : SlQ w m.la m.ln m.lc R) (hQ' : SlQ w m'.la m'.ln m'.lc R') (hB : BytesAt w R L) (hB' : BytesAt w R' L') (hz : ∀ l ∈ L, IsB l.2) (hz' : ∀ l ∈ L', IsB l.2)
    (hT : Sl .u64 w m.ta m.tn m.tc T) (hT' : Sl .u64 w m'.ta m'.tn m'.tc T') :
    Calls Try.prog 11 #[.agg m.cs, .agg m'.cs] w fun e w' => e = .returned (.bool (sameM m m' L L' T T')) ∧ Kept w w' := by
  obtain ⟨k, f, t, e, o, p, la, ln, lc, ta, tn, tc, te⟩ := m
  obtain ⟨k2, f2, t2, e2, o2, p2, la2, ln2, lc2, ta2, tn2, tc2, te2⟩ := m'
  unfold MV.cs sameM
  dsimp only at *
  have KX : Kept w ((w.alloc (.cells #[.int .i64 k, .int .i64 f, .int .i64 t, .int .i64 e, .int .i64 o, .int .i64 p, .slice la ln lc, .slice ta tn tc, .int .i64 te] 33)).alloc (.cells #[.int .i64 k2, .int .i64 f2, .int .i64 t2, .int .i64 e2, .int .i64 o2, .int .i64 p2, .slice la2 ln2 lc2, .slice ta2 tn2 tc2, .int .i64 te2] 33)) := (kept_al _ _).trans (kept_al _ _)
  have h1 : ((w.alloc (.cells #[.int .i64 k, .int .i64 f, .int .i64 t, .int .i64 e, .int .i64 o, .int .i64 p, .slice la ln lc, .slice ta tn tc, .int .i64 te] 33)).alloc (.cells #[.int .i64 k2, .int .i64 f2, .int .i64 t2, .int .i64 e2, .int .i64 o2, .int .i64 p2, .slice la2 ln2 lc2, .slice ta2 tn2 tc2, .int .i64 te2] 33)).heap[w.heap.size]? = some (.cells #[.int .i64 k, .int .i64 f, .int .i64 t, .int .i64 e, .int .i64 o, .int .i64 p, .slice la ln lc, .slice ta tn tc, .int .i64 te] 33 (0, 0)) := heap_keep (heap_alloc_new w _) _
  have h2 : ((w.alloc (.cells #[.int .i64 k, .int .i64 f, .int .i64 t, .int .i64 e, .int .i64 o, .int .i64 p, .slice la ln lc, .slice ta tn tc, .int .i64 te] 33)).alloc (.cells #[.int .i64 k2, .int .i64 f2, .int .i64 t2, .int .i64 e2, .int .i64 o2, .int .i64 p2, .slice la2 ln2 lc2, .slice ta2 tn2 tc2, .int .i64 te2] 33)).heap[w.heap.size + 1]? = some (.cells #[.int .i64 k2, .int .i64 f2, .int .i64 t2, .int .i64 e2, .int .i64 o2, .int .i64 p2, .slice la2 ln2 lc2, .slice ta2 tn2 tc2, .int .i64 te2] 33 (0, 0)) := two_new' w _ _
  have HS := Lib.hid (fun V (kk : Kept w V) => stamps_equal ta tn tc ta2 tn2 tc2 T T' V (kk.sl hT) (kk.sl hT'))
  have HR := Lib.hid (fun V (kk : Kept w V) => recs_equal la ln lc la2 ln2 lc2 R R' L L' V (hQ.kept kk) (hQ'.kept kk) (hB.kept kk) (hB'.kept kk) hz hz')
  clear hQ hQ' hB hB' hz hz' hT hT'
  generalize hX : World.alloc (World.alloc w _) _ = X at KX h1 h2
  have H1 := Lib.hid h1
  have H2 := Lib.hid h2
  obtain ⟨q0, q1, q2, q3, q4, q5, q6, q7, q8⟩ := nine_cells h1
  obtain ⟨r0, r1, r2, r3, r4, r5, r6, r7, r8⟩ := nine_cells h2
  clear h1 h2
  have KV : Kept X X := Kept.refl X
  by_cases c0 : k = k2
  · subst c0
    by_cases c1 : f = f2
    · subst c1
      by_cases c2 : t = t2
      · subst c2
        by_cases c3 : e = e2
        · subst c3
          by_cases c4 : o = o2
          · subst c4
            by_cases c5 : p = p2
            · subst c5
              by_cases c6 : te = te2
              · subst c6
                by_cases cT : T = T'
                · rw [show decide (k = k ∧ f = f ∧ t = t ∧ e = e ∧ o = o ∧ p = p ∧ te = te ∧ T = T' ∧ L = L') = decide (L = L') from by simp [cT]]
                  rw [decide_eq_true cT] at HS
                  generalize decide (L = L') = g at *
                  go_enter Try.func11, Try.ntmps11
                  go_upto_region 1 with fail
                  clear hX cT
                  go_wp2_with (first
                    | (go_at_call 21; refine (HS.out _ (KX.trans KV)).mono ?_; rintro E V ⟨rfl, J⟩; replace KV := (KV.dr J); clear J; clear q0 q1 q2 q3 q4 q5 q6 q7 q8 r0 r1 r2 r3 r4 r5 r6 r7 r8; obtain ⟨q0, q1, q2, q3, q4, q5, q6, q7, q8⟩ := nine_cells (KV.only.heap H1.out (by simp)); obtain ⟨r0, r1, r2, r3, r4, r5, r6, r7, r8⟩ := nine_cells (KV.only.heap H2.out (by simp)))
                    | (go_at_call 22; refine (HR.out _ (KX.trans KV)).mono ?_; rintro E V ⟨rfl, J⟩; replace KV := KV.trans J; clear J))
                  exact bodyPost_ret (v := .bool g) (by simp [results, Try.results11, go_sem]) rfl ⟨rfl, KX.trans KV⟩
                · rw [show decide (k = k ∧ f = f ∧ t = t ∧ e = e ∧ o = o ∧ p = p ∧ te = te ∧ T = T' ∧ L = L') = false from by simp [cT]]
                  rw [decide_eq_false cT] at HS
                  go_enter Try.func11, Try.ntmps11
                  go_upto_region 1 with fail
                  clear hX cT
                  go_wp2_with (first
                    | (go_at_call 21; refine (HS.out _ (KX.trans KV)).mono ?_; rintro E V ⟨rfl, J⟩; replace KV := (KV.dr J); clear J; clear q0 q1 q2 q3 q4 q5 q6 q7 q8 r0 r1 r2 r3 r4 r5 r6 r7 r8; obtain ⟨q0, q1, q2, q3, q4, q5, q6, q7, q8⟩ := nine_cells (KV.only.heap H1.out (by simp)); obtain ⟨r0, r1, r2, r3, r4, r5, r6, r7, r8⟩ := nine_cells (KV.only.heap H2.out (by simp)))
                    | (go_at_call 22; refine (HR.out _ (KX.trans KV)).mono ?_; rintro E V ⟨rfl, J⟩; replace KV := KV.trans J; clear J))
                  exact bodyPost_ret (v := .bool false) (by simp [results, Try.results11, go_sem]) rfl ⟨rfl, KX.trans KV⟩
              · have b : (te == te2) = false := by simp [c6]
                rw [show decide (k = k ∧ f = f ∧ t = t ∧ e = e ∧ o = o ∧ p = p ∧ te = te2 ∧ T = T' ∧ L = L') = false from decide_eq_false fun h => c6 h.2.2.2.2.2.2.1]
                go_enter Try.func11, Try.ntmps11
                go_upto_region 1 with fail
                clear hX
                go_wp2_with (first
                  | (go_at_call 21; refine (HS.out _ (KX.trans KV)).mono ?_; rintro E V ⟨rfl, J⟩; replace KV := (KV.dr J); clear J; clear q0 q1 q2 q3 q4 q5 q6 q7 q8 r0 r1 r2 r3 r4 r5 r6 r7 r8; obtain ⟨q0, q1, q2, q3, q4, q5, q6, q7, q8⟩ := nine_cells (KV.only.heap H1.out (by simp)); obtain ⟨r0, r1, r2, r3, r4, r5, r6, r7, r8⟩ := nine_cells (KV.only.heap H2.out (by simp)))
                  | (go_at_call 22; refine (HR.out _ (KX.trans KV)).mono ?_; rintro E V ⟨rfl, J⟩; replace KV := KV.trans J; clear J))
                exact bodyPost_ret (v := .bool false) (by simp [results, Try.results11, go_sem]) rfl ⟨rfl, KX.trans KV⟩
            · have b : (p == p2) = false := by simp [c5]
              rw [show decide (k = k ∧ f = f ∧ t = t ∧ e = e ∧ o = o ∧ p = p2 ∧ te = te2 ∧ T = T' ∧ L = L') = false from decide_eq_false fun h => c5 h.2.2.2.2.2.1]
              go_enter Try.func11, Try.ntmps11
              go_upto_region 1 with fail
              clear hX
              go_wp2_with (first
                | (go_at_call 21; refine (HS.out _ (KX.trans KV)).mono ?_; rintro E V ⟨rfl, J⟩; replace KV := (KV.dr J); clear J; clear q0 q1 q2 q3 q4 q5 q6 q7 q8 r0 r1 r2 r3 r4 r5 r6 r7 r8; obtain ⟨q0, q1, q2, q3, q4, q5, q6, q7, q8⟩ := nine_cells (KV.only.heap H1.out (by simp)); obtain ⟨r0, r1, r2, r3, r4, r5, r6, r7, r8⟩ := nine_cells (KV.only.heap H2.out (by simp)))
                | (go_at_call 22; refine (HR.out _ (KX.trans KV)).mono ?_; rintro E V ⟨rfl, J⟩; replace KV := KV.trans J; clear J))
              exact bodyPost_ret (v := .bool false) (by simp [results, Try.results11, go_sem]) rfl ⟨rfl, KX.trans KV⟩
          · have b : (o == o2) = false := by simp [c4]
            rw [show decide (k = k ∧ f = f ∧ t = t ∧ e = e ∧ o = o2 ∧ p = p2 ∧ te = te2 ∧ T = T' ∧ L = L') = false from decide_eq_false fun h => c4 h.2.2.2.2.1]
            go_enter Try.func11, Try.ntmps11
            go_upto_region 1 with fail
            clear hX
            go_wp2_with (first
              | (go_at_call 21; refine (HS.out _ (KX.trans KV)).mono ?_; rintro E V ⟨rfl, J⟩; replace KV := (KV.dr J); clear J; clear q0 q1 q2 q3 q4 q5 q6 q7 q8 r0 r1 r2 r3 r4 r5 r6 r7 r8; obtain ⟨q0, q1, q2, q3, q4, q5, q6, q7, q8⟩ := nine_cells (KV.only.heap H1.out (by simp)); obtain ⟨r0, r1, r2, r3, r4, r5, r6, r7, r8⟩ := nine_cells (KV.only.heap H2.out (by simp)))
              | (go_at_call 22; refine (HR.out _ (KX.trans KV)).mono ?_; rintro E V ⟨rfl, J⟩; replace KV := KV.trans J; clear J))
            exact bodyPost_ret (v := .bool false) (by simp [results, Try.results11, go_sem]) rfl ⟨rfl, KX.trans KV⟩
        · have b : (e == e2) = false := by simp [c3]
          rw [show decide (k = k ∧ f = f ∧ t = t ∧ e = e2 ∧ o = o2 ∧ p = p2 ∧ te = te2 ∧ T = T' ∧ L = L') = false from decide_eq_false fun h => c3 h.2.2.2.1]
          go_enter Try.func11, Try.ntmps11
          go_upto_region 1 with fail
          clear hX
          go_wp2_with (first
            | (go_at_call 21; refine (HS.out _ (KX.trans KV)).mono ?_; rintro E V ⟨rfl, J⟩; replace KV := (KV.dr J); clear J; clear q0 q1 q2 q3 q4 q5 q6 q7 q8 r0 r1 r2 r3 r4 r5 r6 r7 r8; obtain ⟨q0, q1, q2, q3, q4, q5, q6, q7, q8⟩ := nine_cells (KV.only.heap H1.out (by simp)); obtain ⟨r0, r1, r2, r3, r4, r5, r6, r7, r8⟩ := nine_cells (KV.only.heap H2.out (by simp)))
            | (go_at_call 22; refine (HR.out _ (KX.trans KV)).mono ?_; rintro E V ⟨rfl, J⟩; replace KV := KV.trans J; clear J))
          exact bodyPost_ret (v := .bool false) (by simp [results, Try.results11, go_sem]) rfl ⟨rfl, KX.trans KV⟩
      · have b : (t == t2) = false := by simp [c2]
        rw [show decide (k = k ∧ f = f ∧ t = t2 ∧ e = e2 ∧ o = o2 ∧ p = p2 ∧ te = te2 ∧ T = T' ∧ L = L') = false from decide_eq_false fun h => c2 h.2.2.1]
        go_enter Try.func11, Try.ntmps11
        go_upto_region 1 with fail
        clear hX
        go_wp2_with (first
          | (go_at_call 21; refine (HS.out _ (KX.trans KV)).mono ?_; rintro E V ⟨rfl, J⟩; replace KV := (KV.dr J); clear J; clear q0 q1 q2 q3 q4 q5 q6 q7 q8 r0 r1 r2 r3 r4 r5 r6 r7 r8; obtain ⟨q0, q1, q2, q3, q4, q5, q6, q7, q8⟩ := nine_cells (KV.only.heap H1.out (by simp)); obtain ⟨r0, r1, r2, r3, r4, r5, r6, r7, r8⟩ := nine_cells (KV.only.heap H2.out (by simp)))
          | (go_at_call 22; refine (HR.out _ (KX.trans KV)).mono ?_; rintro E V ⟨rfl, J⟩; replace KV := KV.trans J; clear J))
        exact bodyPost_ret (v := .bool false) (by simp [results, Try.results11, go_sem]) rfl ⟨rfl, KX.trans KV⟩
    · have b : (f == f2) = false := by simp [c1]
      rw [show decide (k = k ∧ f = f2 ∧ t = t2 ∧ e = e2 ∧ o = o2 ∧ p = p2 ∧ te = te2 ∧ T = T' ∧ L = L') = false from decide_eq_false fun h => c1 h.2.1]
      go_enter Try.func11, Try.ntmps11
      go_upto_region 1 with fail
      clear hX
      go_wp2_with (first
        | (go_at_call 21; refine (HS.out _ (KX.trans KV)).mono ?_; rintro E V ⟨rfl, J⟩; replace KV := (KV.dr J); clear J; clear q0 q1 q2 q3 q4 q5 q6 q7 q8 r0 r1 r2 r3 r4 r5 r6 r7 r8; obtain ⟨q0, q1, q2, q3, q4, q5, q6, q7, q8⟩ := nine_cells (KV.only.heap H1.out (by simp)); obtain ⟨r0, r1, r2, r3, r4, r5, r6, r7, r8⟩ := nine_cells (KV.only.heap H2.out (by simp)))
        | (go_at_call 22; refine (HR.out _ (KX.trans KV)).mono ?_; rintro E V ⟨rfl, J⟩; replace KV := KV.trans J; clear J))
      exact bodyPost_ret (v := .bool false) (by simp [results, Try.results11, go_sem]) rfl ⟨rfl, KX.trans KV⟩
  · have b : (k == k2) = false := by simp [c0]
    rw [show decide (k = k2 ∧ f = f2 ∧ t = t2 ∧ e = e2 ∧ o = o2 ∧ p = p2 ∧ te = te2 ∧ T = T' ∧ L = L') = false from decide_eq_false fun h => c0 h.1]
    go_enter Try.func11, Try.ntmps11
    go_upto_region 1 with fail
    clear hX
    go_wp2_with (first
      | (go_at_call 21; refine (HS.out _ (KX.trans KV)).mono ?_; rintro E V ⟨rfl, J⟩; replace KV := (KV.dr J); clear J; clear q0 q1 q2 q3 q4 q5 q6 q7 q8 r0 r1 r2 r3 r4 r5 r6 r7 r8; obtain ⟨q0, q1, q2, q3, q4, q5, q6, q7, q8⟩ := nine_cells (KV.only.heap H1.out (by simp)); obtain ⟨r0, r1, r2, r3, r4, r5, r6, r7, r8⟩ := nine_cells (KV.only.heap H2.out (by simp)))
      | (go_at_call 22; refine (HR.out _ (KX.trans KV)).mono ?_; rintro E V ⟨rfl, J⟩; replace KV := KV.trans J; clear J))
    exact bodyPost_ret (v := .bool false) (by simp [results, Try.results11, go_sem]) rfl ⟨rfl, KX.trans KV⟩
end Go.Proofs.Ytnnjflljlooifaa
