/- The walk of MsgSame. Printed by gen_mslaw.py. -/
import Derived.Test.YtpojncpblkklgaaMsAw2
import Derived.Deep.CutRange
import Derived.Deep.RegionHeld3
import Derived.Deep.RegionLaw
set_option linter.unusedVariables false
set_option linter.unusedSimpArgs false
namespace Go.Proofs.Ytpojncpblkklgaa
open Go.RowKit
theorem MsgAt.heavy {V : World} {la : Option Addr} {ln lc : Nat} {ta : Option Addr} {tn tc : Nat} {L : List (Int × List Int)} {T : List Int} (h : MsgAt V la ln lc ta tn tc L T) (k f t e o p te : Int) :
    Calls Try.prog 12 #[.agg #[.int .i64 k, .int .i64 f, .int .i64 t, .int .i64 e, .int .i64 o, .int .i64 p, .slice la ln lc, .slice ta tn tc, .int .i64 te]] V fun E w' => (E = .returned (.bool true) ∨ (E = .returned (.bool false) ∧ ln ≤ 12 ∧ tn ≤ 70)) ∧ Kept V w' := by
  obtain ⟨R, h1, h2, h3⟩ := h
  refine (sh_heavy2 ⟨k, f, t, e, o, p, la, ln, lc, ta, tn, tc, te⟩ (rvM R) V h1.slM h3.2.1 h3.2.2.1).mono ?_
  rintro E w' ⟨h, K⟩
  refine ⟨?_, K⟩
  rcases h with h | ⟨h, g1, g2, _⟩
  · exact .inl h
  · exact .inr ⟨h, g1, g2⟩
theorem MsgAt.lens {V : World} {la : Option Addr} {ln lc : Nat} {ta : Option Addr} {tn tc : Nat} {L : List (Int × List Int)} {T : List Int} (h : MsgAt V la ln lc ta tn tc L T) : L.length = ln ∧ T.length = tn := by
  obtain ⟨R, h1, h2, h3⟩ := h
  exact ⟨by rw [← h2.1]; exact h1.1, h3.1⟩
theorem enc_same {m m' : MV} {L L' : List (Int × List Int)} {T T' : List Int} (g : goodM m (Go.Proofs.Ytpojncpblkklgaa.lens L) T = true) (g' : goodM m' (Go.Proofs.Ytpojncpblkklgaa.lens L') T' = true) (hl : L.length = m.ln) (ht : T.length = m.tn) (hl' : L'.length = m'.ln) (ht' : T'.length = m'.tn) (hz : ∀ l ∈ L, (0 ≤ l.1 ∧ l.1 ≤ 18446744073709551615) ∧ IsB l.2) (hz' : ∀ l ∈ L', (0 ≤ l.1 ∧ l.1 ≤ 18446744073709551615) ∧ IsB l.2) (hW : IsW T) (hW' : IsW T') :
    ((strOf (encM m.k m.f m.e m.o m.p L T m.te)).toList == (strOf (encM m'.k m'.f m'.e m'.o m'.p L' T' m'.te)).toList) = decide (m.k = m'.k ∧ m.f = m'.f ∧ m.t = m'.t ∧ m.e = m'.e ∧ m.o = m'.o ∧ m.p = m'.p ∧ m.te = m'.te ∧ T = T' ∧ L = L') := by
  obtain ⟨o1, t1⟩ := goodM_ok m L T g hl ht hz hW
  obtain ⟨o2, t2⟩ := goodM_ok m' L' T' g' hl' ht' hz' hW'
  by_cases h : m.k = m'.k ∧ m.f = m'.f ∧ m.t = m'.t ∧ m.e = m'.e ∧ m.o = m'.o ∧ m.p = m'.p ∧ m.te = m'.te ∧ T = T' ∧ L = L'
  · rw [decide_eq_true h]
    obtain ⟨h1, h2, h3, h4, h5, h6, h7, h8, h9⟩ := h
    rw [h1, h2, h4, h5, h6, h7, h8, h9]
    exact str_eq _
  · rw [decide_eq_false h]
    refine str_ne fun e => h ?_
    have e2 := strOf_inj (encM_isB o1) (encM_isB o2) e
    obtain ⟨h1, h2, h3, h4, h5, h6, h7, h8⟩ := encM_inj o1 o2 e2
    exact ⟨h1, h2, by rw [t1, t2, h2], h3, h4, h5, h8, h7, h6⟩
set_option maxRecDepth 100000 in
set_option maxHeartbeats 8000000 in
theorem msgSame_walk (k f t e o p te : Int) (la : Option Addr) (ln lc : Nat) (ta : Option Addr) (tn tc : Nat) (L : List (Int × List Int)) (T : List Int) (k2 f2 t2 e2 o2 p2 te2 : Int) (la2 : Option Addr) (ln2 lc2 : Nat) (ta2 : Option Addr) (tn2 tc2 : Nat) (L2 : List (Int × List Int)) (T2 : List Int) (w : World)
    (hA : MsgAt w la ln lc ta tn tc L T) (hB : MsgAt w la2 ln2 lc2 ta2 tn2 tc2 L2 T2) (zA : ∀ l ∈ L, (0 ≤ l.1 ∧ l.1 ≤ 18446744073709551615) ∧ IsB l.2) (zB : ∀ l ∈ L2, (0 ≤ l.1 ∧ l.1 ≤ 18446744073709551615) ∧ IsB l.2) (wA : IsW T) (wB : IsW T2) :
    Calls Try.prog 4 #[.agg #[.int .i64 k, .int .i64 f, .int .i64 t, .int .i64 e, .int .i64 o, .int .i64 p, .slice la ln lc, .slice ta tn tc, .int .i64 te], .agg #[.int .i64 k2, .int .i64 f2, .int .i64 t2, .int .i64 e2, .int .i64 o2, .int .i64 p2, .slice la2 ln2 lc2, .slice ta2 tn2 tc2, .int .i64 te2]] w fun E w' => E = .returned (.bool true) ∧ Kept w w' := by
  obtain ⟨hlA, htA⟩ := hA.lens
  obtain ⟨hlB, htB⟩ := hB.lens
  have bA : ∀ l ∈ L, IsB l.2 := fun l h => (zA l h).2
  have bB : ∀ l ∈ L2, IsB l.2 := fun l h => (zB l h).2
  have KX : Kept w ((w.alloc (.cells #[.int .i64 k, .int .i64 f, .int .i64 t, .int .i64 e, .int .i64 o, .int .i64 p, .slice la ln lc, .slice ta tn tc, .int .i64 te] 29)).alloc (.cells #[.int .i64 k2, .int .i64 f2, .int .i64 t2, .int .i64 e2, .int .i64 o2, .int .i64 p2, .slice la2 ln2 lc2, .slice ta2 tn2 tc2, .int .i64 te2] 29)) := (kept_al _ _).trans (kept_al _ _)
  have h1 : ((w.alloc (.cells #[.int .i64 k, .int .i64 f, .int .i64 t, .int .i64 e, .int .i64 o, .int .i64 p, .slice la ln lc, .slice ta tn tc, .int .i64 te] 29)).alloc (.cells #[.int .i64 k2, .int .i64 f2, .int .i64 t2, .int .i64 e2, .int .i64 o2, .int .i64 p2, .slice la2 ln2 lc2, .slice ta2 tn2 tc2, .int .i64 te2] 29)).heap[w.heap.size]? = some (.cells #[.int .i64 k, .int .i64 f, .int .i64 t, .int .i64 e, .int .i64 o, .int .i64 p, .slice la ln lc, .slice ta tn tc, .int .i64 te] 29 (0, 0)) := heap_keep (heap_alloc_new w _) _
  have h2 : ((w.alloc (.cells #[.int .i64 k, .int .i64 f, .int .i64 t, .int .i64 e, .int .i64 o, .int .i64 p, .slice la ln lc, .slice ta tn tc, .int .i64 te] 29)).alloc (.cells #[.int .i64 k2, .int .i64 f2, .int .i64 t2, .int .i64 e2, .int .i64 o2, .int .i64 p2, .slice la2 ln2 lc2, .slice ta2 tn2 tc2, .int .i64 te2] 29)).heap[w.heap.size + 1]? = some (.cells #[.int .i64 k2, .int .i64 f2, .int .i64 t2, .int .i64 e2, .int .i64 o2, .int .i64 p2, .slice la2 ln2 lc2, .slice ta2 tn2 tc2, .int .i64 te2] 29 (0, 0)) := two_new' w _ _
  have HAw := Lib.hid awake22
  have HA := Lib.hid hA
  have HB := Lib.hid hB
  clear hA hB
  go_enter Try.func4, Try.ntmps4
  go_upto_region 1 with fail
  generalize World.alloc (World.alloc w _) _ = X at *
  obtain ⟨qb, hqb⟩ : ∃ qb, qb = w.heap.size + 1 := ⟨_, rfl⟩
  obtain ⟨qa, hqa⟩ : ∃ qa, qa = w.heap.size := ⟨_, rfl⟩
  rw [← hqb] at h2
  rw [← hqa] at h1
  rw [← hqb, ← hqa]
  clear hqa hqb
  have HC : Hid (∀ Z, Kept X Z → Z.cell? ⟨qa, 0, none⟩ = some (.int .i64 k) ∧ Z.cell? ⟨qa, 1, none⟩ = some (.int .i64 f) ∧ Z.cell? ⟨qa, 2, none⟩ = some (.int .i64 t) ∧ Z.cell? ⟨qa, 3, none⟩ = some (.int .i64 e) ∧ Z.cell? ⟨qa, 4, none⟩ = some (.int .i64 o) ∧ Z.cell? ⟨qa, 5, none⟩ = some (.int .i64 p) ∧ Z.cell? ⟨qa, 6, none⟩ = some (.slice la ln lc) ∧ Z.cell? ⟨qa, 7, none⟩ = some (.slice ta tn tc) ∧ Z.cell? ⟨qa, 8, none⟩ = some (.int .i64 te) ∧ Z.cell? ⟨qb, 0, none⟩ = some (.int .i64 k2) ∧ Z.cell? ⟨qb, 1, none⟩ = some (.int .i64 f2) ∧ Z.cell? ⟨qb, 2, none⟩ = some (.int .i64 t2) ∧ Z.cell? ⟨qb, 3, none⟩ = some (.int .i64 e2) ∧ Z.cell? ⟨qb, 4, none⟩ = some (.int .i64 o2) ∧ Z.cell? ⟨qb, 5, none⟩ = some (.int .i64 p2) ∧ Z.cell? ⟨qb, 6, none⟩ = some (.slice la2 ln2 lc2) ∧ Z.cell? ⟨qb, 7, none⟩ = some (.slice ta2 tn2 tc2) ∧ Z.cell? ⟨qb, 8, none⟩ = some (.int .i64 te2)) := fun Z kk => by
    obtain ⟨q0, q1, q2, q3, q4, q5, q6, q7, q8⟩ := nine_cells (kk.only.heap h1 (by simp))
    obtain ⟨r0, r1, r2, r3, r4, r5, r6, r7, r8⟩ := nine_cells (kk.only.heap h2 (by simp))
    exact ⟨q0, q1, q2, q3, q4, q5, q6, q7, q8, r0, r1, r2, r3, r4, r5, r6, r7, r8⟩
  clear h1 h2
  have KV := Kept.refl X
  go_upto_region 3 with (go_at_call 5; refine (HAw.out _).mono ?_; rintro E V ⟨rfl, J⟩; replace KV := KV.trans J; clear J)
  obtain ⟨q0, q1, q2, q3, q4, q5, q6, q7, q8, r0, r1, r2, r3, r4, r5, r6, r7, r8⟩ := HC.out _ KV
  go_wp2_with fail
  refine ((HA.out.kept (KX.trans KV)).heavy k f t e o p te).mono ?_
  rintro E V1 ⟨(rfl | ⟨rfl, hn, htn⟩), J⟩
  · replace KV := KV.trans J
    clear J q0 q1 q2 q3 q4 q5 q6 q7 q8 r0 r1 r2 r3 r4 r5 r6 r7 r8
    go_wp2
    exact bodyPost_ret (v := .bool true) (by simp [results, Try.results4, go_sem]) rfl ⟨rfl, KX.trans KV⟩
  replace KV := KV.trans J
  clear J q0 q1 q2 q3 q4 q5 q6 q7 q8 r0 r1 r2 r3 r4 r5 r6 r7 r8
  obtain ⟨q0, q1, q2, q3, q4, q5, q6, q7, q8, r0, r1, r2, r3, r4, r5, r6, r7, r8⟩ := HC.out _ KV
  go_wp2_with fail
  refine ((HB.out.kept (KX.trans KV)).heavy k2 f2 t2 e2 o2 p2 te2).mono ?_
  rintro E V2 ⟨(rfl | ⟨rfl, hn2, htn2⟩), J⟩
  · replace KV := KV.trans J
    clear J q0 q1 q2 q3 q4 q5 q6 q7 q8 r0 r1 r2 r3 r4 r5 r6 r7 r8
    go_wp2
    exact bodyPost_ret (v := .bool true) (by simp [results, Try.results4, go_sem]) rfl ⟨rfl, KX.trans KV⟩
  replace KV := KV.trans J
  clear J q0 q1 q2 q3 q4 q5 q6 q7 q8 r0 r1 r2 r3 r4 r5 r6 r7 r8
  have HMA := Lib.hid (fun V (kk : Kept X V) => cMsgOf (k := k) (f := f) (t := t) (e := e) (o := o) (p := p) (te := te) (HA.out.kept (KX.trans kk)) (by omega) (by omega))
  have HMB := Lib.hid (fun V (kk : Kept X V) => cMsgOf (k := k2) (f := f2) (t := t2) (e := e2) (o := o2) (p := p2) (te := te2) (HB.out.kept (KX.trans kk)) (by omega) (by omega))
  have HAl := Lib.hid (fun V a c a2 c2 a' c' a2' c2' (h : RefAt V a ln c a2 tn c2 L T) (h' : RefAt V a' ln2 c' a2' tn2 c2' L2 T2) => cAlike (k := k) (f := f) (t := t) (e := e) (o := o) (p := p) (te := te) (k' := k2) (f' := f2) (t' := t2) (e' := e2) (o' := o2) (p' := p2) (te' := te2) h h' bA bB)
  have HSm := Lib.hid (fun V (kk : Kept X V) => cSame (k := k) (f := f) (t := t) (e := e) (o := o) (p := p) (te := te) (k' := k2) (f' := f2) (t' := t2) (e' := e2) (o' := o2) (p' := p2) (te' := te2) (HA.out.kept (KX.trans kk)) (HB.out.kept (KX.trans kk)) bA bB)
  have HEn : Hid (∀ (g : goodM ⟨k, f, t, e, o, p, la, ln, lc, ta, tn, tc, te⟩ (lens L) T = true) (g' : goodM ⟨k2, f2, t2, e2, o2, p2, la2, ln2, lc2, ta2, tn2, tc2, te2⟩ (lens L2) T2 = true), ((strOf (encM k f e o p L T te)).toList == (strOf (encM k2 f2 e2 o2 p2 L2 T2 te2)).toList) = decide (k = k2 ∧ f = f2 ∧ t = t2 ∧ e = e2 ∧ o = o2 ∧ p = p2 ∧ te = te2 ∧ T = T2 ∧ L = L2)) := fun g g' => enc_same (m := ⟨k, f, t, e, o, p, la, ln, lc, ta, tn, tc, te⟩) (m' := ⟨k2, f2, t2, e2, o2, p2, la2, ln2, lc2, ta2, tn2, tc2, te2⟩) g g' hlA htA hlB htB zA zB wA wB
  generalize decide (k = k2 ∧ f = f2 ∧ t = t2 ∧ e = e2 ∧ o = o2 ∧ p = p2 ∧ te = te2 ∧ T = T2 ∧ L = L2) = sv at *
  have HGA := Lib.hid (fun V (kk : Kept X V) => cGood (k := k) (f := f) (t := t) (e := e) (o := o) (p := p) (te := te) (HA.out.kept (KX.trans kk)) wA (by omega) rfl)
  have HGB := Lib.hid (fun V (kk : Kept X V) => cGood (k := k2) (f := f2) (t := t2) (e := e2) (o := o2) (p := p2) (te := te2) (HB.out.kept (KX.trans kk)) wB (by omega) rfl)
  have HPA := Lib.hid (fun V (kk : Kept X V) => cPut (k := k) (f := f) (t := t) (e := e) (o := o) (p := p) (te := te) (HA.out.kept (KX.trans kk)) bA wA (by omega))
  have HPB := Lib.hid (fun V (kk : Kept X V) => cPut (k := k2) (f := f2) (t := t2) (e := e2) (o := o2) (p := p2) (te := te2) (HB.out.kept (KX.trans kk)) bB wB (by omega))
  generalize goodM ⟨k, f, t, e, o, p, la, ln, lc, ta, tn, tc, te⟩ (lens L) T = gA at *
  generalize goodM ⟨k2, f2, t2, e2, o2, p2, la2, ln2, lc2, ta2, tn2, tc2, te2⟩ (lens L2) T2 = gB at *
  generalize encM k f e o p L T te = ZA at *
  generalize encM k2 f2 e2 o2 p2 L2 T2 te2 = ZB at *
  go_wp2_with fail
  have KD : Kept X V2.drew := KV.dr ⟨1, rfl⟩
  go_region_held3 (fun Z => Z.cell? ⟨qa, 0, none⟩ = some (.int .i64 k) ∧ Z.cell? ⟨qa, 1, none⟩ = some (.int .i64 f) ∧ Z.cell? ⟨qa, 2, none⟩ = some (.int .i64 t) ∧ Z.cell? ⟨qa, 3, none⟩ = some (.int .i64 e) ∧ Z.cell? ⟨qa, 4, none⟩ = some (.int .i64 o) ∧ Z.cell? ⟨qa, 5, none⟩ = some (.int .i64 p) ∧ Z.cell? ⟨qa, 6, none⟩ = some (.slice la ln lc) ∧ Z.cell? ⟨qa, 7, none⟩ = some (.slice ta tn tc) ∧ Z.cell? ⟨qa, 8, none⟩ = some (.int .i64 te) ∧ Z.cell? ⟨qb, 0, none⟩ = some (.int .i64 k2) ∧ Z.cell? ⟨qb, 1, none⟩ = some (.int .i64 f2) ∧ Z.cell? ⟨qb, 2, none⟩ = some (.int .i64 t2) ∧ Z.cell? ⟨qb, 3, none⟩ = some (.int .i64 e2) ∧ Z.cell? ⟨qb, 4, none⟩ = some (.int .i64 o2) ∧ Z.cell? ⟨qb, 5, none⟩ = some (.int .i64 p2) ∧ Z.cell? ⟨qb, 6, none⟩ = some (.slice la2 ln2 lc2) ∧ Z.cell? ⟨qb, 7, none⟩ = some (.slice ta2 tn2 tc2) ∧ Z.cell? ⟨qb, 8, none⟩ = some (.int .i64 te2)) (exact HC.out _ KD) (first
    | (go_at_call 14; with_reducible refine (HMA.out _ KD).mono ?_; rintro E V1 ⟨a7, c7, b7, d7, rfl, h, J⟩; replace KD := KD.trans J; (first | (replace H8 := Lib.hid (H8.out.kept J)) | skip); clear J; have H7 := Lib.hid h; clear h)
    | (go_at_call 14; with_reducible refine (HMB.out _ KD).mono ?_; rintro E V2 ⟨a8, c8, b8, d8, rfl, h, J⟩; replace KD := KD.trans J; (first | (replace H7 := Lib.hid (H7.out.kept J)) | skip); clear J; have H8 := Lib.hid h; clear h)
    | (go_at_call 13; refine (HAl.out _ _ _ _ _ _ _ _ _ H7.out H8.out).mono ?_; rintro E V3 ⟨rfl, J⟩; replace KD := KD.trans J; clear J))
  all_goals (
    clear KV
    have KV := KD
    clear KD
    obtain ⟨q0, q1, q2, q3, q4, q5, q6, q7, q8, r0, r1, r2, r3, r4, r5, r6, r7, r8⟩ := HC.out _ KV
    go_wp2_with (go_at_call 11; refine (HSm.out _ KV).mono ?_; clear q0 q1 q2 q3 q4 q5 q6 q7 q8 r0 r1 r2 r3 r4 r5 r6 r7 r8; rintro E V4 ⟨rfl, J⟩; replace KV := KV.trans J; clear J)
    have KD : Kept X V4.drew := KV.dr ⟨1, rfl⟩
    obtain ⟨q0, q1, q2, q3, q4, q5, q6, q7, q8, r0, r1, r2, r3, r4, r5, r6, r7, r8⟩ := HC.out _ KV
    cases gA with
    | false =>
      clear HPA HPB HEn
      first | (go_region_law (go_simp; go_at_call 7; refine (HGA.out _ KD).mono ?_; clear q0 q1 q2 q3 q4 q5 q6 q7 q8 r0 r1 r2 r3 r4 r5 r6 r7 r8; rintro E V4 ⟨rfl, J⟩; replace KD := KD.trans J; clear J)) | fail
      all_goals (
        go_wp2
        clear KV
        have KV := KD
        exact bodyPost_ret (v := .bool true) (by simp [results, Try.results4, go_sem]) rfl ⟨rfl, KX.trans KV⟩)
    | true =>
      cases gB with
      | false =>
        clear HPA HPB HEn
        first | (go_region_law (go_simp; go_at_call 7; first
        | (with_reducible refine (HGA.out _ KD).mono ?_; clear q0 q1 q2 q3 q4 q5 q6 q7 q8 r0 r1 r2 r3 r4 r5 r6 r7 r8; rintro E V4 ⟨rfl, J⟩; replace KD := KD.trans J; clear J; obtain ⟨_, _, _, _, _, _, _, _, _, r0, r1, r2, r3, r4, r5, r6, r7, r8⟩ := HC.out _ KD)
        | (with_reducible refine (HGB.out _ KD).mono ?_; clear r0 r1 r2 r3 r4 r5 r6 r7 r8; rintro E V5 ⟨rfl, J⟩; replace KD := KD.trans J; clear J))) | fail
        all_goals (
          go_wp2
          clear KV
          have KV := KD
          exact bodyPost_ret (v := .bool true) (by simp [results, Try.results4, go_sem]) rfl ⟨rfl, KX.trans KV⟩)
      | true =>
        have hEq := HEn.out rfl rfl
        simp only [if_true] at HPA HPB
        first | (go_region_law (go_simp; first
      | (go_at_call 7; first
        | (with_reducible refine (HGA.out _ KD).mono ?_; clear q0 q1 q2 q3 q4 q5 q6 q7 q8 r0 r1 r2 r3 r4 r5 r6 r7 r8; rintro E V4 ⟨rfl, J⟩; replace KD := KD.trans J; clear J; obtain ⟨q0, q1, q2, q3, q4, q5, q6, q7, q8, r0, r1, r2, r3, r4, r5, r6, r7, r8⟩ := HC.out _ KD)
        | (with_reducible refine (HGB.out _ KD).mono ?_; clear q0 q1 q2 q3 q4 q5 q6 q7 q8 r0 r1 r2 r3 r4 r5 r6 r7 r8; rintro E V5 ⟨rfl, J⟩; replace KD := KD.trans J; clear J; obtain ⟨q0, q1, q2, q3, q4, q5, q6, q7, q8, r0, r1, r2, r3, r4, r5, r6, r7, r8⟩ := HC.out _ KD))
      | (go_at_call 8; first
        | (with_reducible refine (HPA.out _ KD).mono ?_; clear q0 q1 q2 q3 q4 q5 q6 q7 q8 r0 r1 r2 r3 r4 r5 r6 r7 r8; rintro E V6 ⟨aA, nA, cA, rfl, h, J⟩; replace KD := KD.trans J; (first | (replace HsB := Lib.hid (J.sl HsB.out); have hcB2 := run_str (P := Try.prog) 32 9 5 Try.underlying32 Try.underlying5 Try.underlying9 HsB.out) | skip); clear J; have HsA := Lib.hid h; clear h; have hcA := run_str (P := Try.prog) 32 9 5 Try.underlying32 Try.underlying5 Try.underlying9 HsA.out; obtain ⟨q0, q1, q2, q3, q4, q5, q6, q7, q8, r0, r1, r2, r3, r4, r5, r6, r7, r8⟩ := HC.out _ KD)
        | (with_reducible refine (HPB.out _ KD).mono ?_; clear q0 q1 q2 q3 q4 q5 q6 q7 q8 r0 r1 r2 r3 r4 r5 r6 r7 r8; rintro E V7 ⟨aB, nB, cB, rfl, h, J⟩; replace KD := KD.trans J; (first | (replace HsA := Lib.hid (J.sl HsA.out); have hcA2 := run_str (P := Try.prog) 32 9 5 Try.underlying32 Try.underlying5 Try.underlying9 HsA.out) | skip); clear J; have HsB := Lib.hid h; clear h; have hcB := run_str (P := Try.prog) 32 9 5 Try.underlying32 Try.underlying5 Try.underlying9 HsB.out; obtain ⟨q0, q1, q2, q3, q4, q5, q6, q7, q8, r0, r1, r2, r3, r4, r5, r6, r7, r8⟩ := HC.out _ KD)))) | fail
        all_goals (
          go_wp2
          clear KV
          have KV := KD
          exact bodyPost_ret (v := .bool true) (by simp [results, Try.results4, go_sem]) rfl ⟨rfl, KX.trans KV⟩))
end Go.Proofs.Ytpojncpblkklgaa
