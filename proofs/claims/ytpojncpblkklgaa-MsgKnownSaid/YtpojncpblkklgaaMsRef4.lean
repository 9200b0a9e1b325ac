/- alike, whatever it is given; heavy, with what it tells. -/
import Derived.Test.YtpojncpblkklgaaMsRef3
set_option linter.unusedVariables false
set_option linter.unusedSimpArgs false
namespace Go.Proofs.Ytpojncpblkklgaa
open Go.RowKit
theorem eqRR (a b : Int) (s u : ByteArray) (w : World) : (Op.equalIn 10000 72 (.agg #[.int .u64 a, .string s]) (.agg #[.int .u64 b, .string u])).run Try.prog w = .ok (decide (a = b ∧ s = u)) w := by
  have hS : Try.prog.underlying 72 = some (.struct (Try.prog.fieldsOf 72)) := by kernel_rfl
  have hp : Try.prog.stoodInHeld 72 = false := by kernel_rfl
  rw [show (10000 : Nat) = 9999 + 1 from rfl, run_equalIn_agg w 9999 72 _ _ hS hp]
  simp only [Program.fieldsOf, Try.underlying72]
  by_cases h1 : a = b
  · by_cases h2 : s = u
    · subst h1 h2
      rw [decide_eq_true ⟨rfl, rfl⟩]
      go_simp
    · have h3 := str_ne h2
      rw [decide_eq_false (fun h => h2 h.2)]
      subst h1
      go_simp
  · have h3 : (a == b) = false := by simp [h1]
    rw [decide_eq_false (fun h => h1 h.1)]
    go_simp
theorem run_neqRR (a b : Int) (s u : ByteArray) (w : World) : (binOp .neq 72 (.agg #[.int .u64 a, .string s]) (.agg #[.int .u64 b, .string u])).run Try.prog w = .ok (.bool (!decide (a = b ∧ s = u))) w := by
  rw [run_neq_struct, eqRR]; rfl
theorem take_eq {α : Type} {A B : List α} (h : A.length = B.length) (hp : ∀ q, q < A.length → A[q]? = B[q]?) : A = B := by
  apply List.ext_getElem? 
  intro i
  rcases Nat.lt_or_ge i A.length with h' | h'
  · exact hp i h'
  · rw [List.getElem?_eq_none h', List.getElem?_eq_none (by omega)]
set_option maxRecDepth 100000 in
set_option maxHeartbeats 8000000 in
theorem law_alike (k f t e o p te k' f' t' e' o' p' te' : Int) (a1 : Option Addr) (n1 c1 : Nat) (a2 : Option Addr) (n2 c2 : Nat) (a3 : Option Addr) (n3 c3 : Nat) (a4 : Option Addr) (n4 c4 : Nat) (L L' : List (Int × List Int)) (T T' : List Int) (w : World)
    (h1 : SlRR w a1 n1 c1 L) (h2 : Sl .u64 w a2 n2 c2 T) (h3 : SlRR w a3 n3 c3 L') (h4 : Sl .u64 w a4 n4 c4 T') (b1 : ∀ l ∈ L, IsB l.2) (b2 : ∀ l ∈ L', IsB l.2) :
    Calls Try.prog 13 #[.agg #[.int .i64 k, .int .i64 f, .int .i64 t, .int .i64 e, .int .i64 o, .int .i64 p, .slice a1 n1 c1, .slice a2 n2 c2, .int .i64 te], .agg #[.int .i64 k', .int .i64 f', .int .i64 t', .int .i64 e', .int .i64 o', .int .i64 p', .slice a3 n3 c3, .slice a4 n4 c4, .int .i64 te']] w fun ee w' => ee = .returned (.bool (decide (k = k' ∧ f = f' ∧ t = t' ∧ e = e' ∧ o = o' ∧ p = p' ∧ te = te' ∧ L = L' ∧ T = T'))) ∧ Kept w w' := by
  have hl1 := h1.1
  have hl3 := h3.1
  have hl2 := h2.1
  have hl4 := h4.1
  have hn1 := h1.2.1
  have hc1 := h1.2.2.1
  have hn3 := h3.2.1
  have hc3 := h3.2.2.1
  have hn2 := h2.2.1
  have hc2 := h2.2.2.1
  have hn4 := h4.2.1
  have hc4 := h4.2.2.1
  unfold maxLen at hc1 hc2 hc3 hc4
  have K : Kept w ((w.alloc (.cells #[.int .i64 k, .int .i64 f, .int .i64 t, .int .i64 e, .int .i64 o, .int .i64 p, .slice a1 n1 c1, .slice a2 n2 c2, .int .i64 te] 47)).alloc (.cells #[.int .i64 k', .int .i64 f', .int .i64 t', .int .i64 e', .int .i64 o', .int .i64 p', .slice a3 n3 c3, .slice a4 n4 c4, .int .i64 te'] 47)) := (kept_al w _).trans (kept_al _ _)
  have d1 : ((w.alloc (.cells #[.int .i64 k, .int .i64 f, .int .i64 t, .int .i64 e, .int .i64 o, .int .i64 p, .slice a1 n1 c1, .slice a2 n2 c2, .int .i64 te] 47)).alloc (.cells #[.int .i64 k', .int .i64 f', .int .i64 t', .int .i64 e', .int .i64 o', .int .i64 p', .slice a3 n3 c3, .slice a4 n4 c4, .int .i64 te'] 47)).heap[w.heap.size]? = some (.cells #[.int .i64 k, .int .i64 f, .int .i64 t, .int .i64 e, .int .i64 o, .int .i64 p, .slice a1 n1 c1, .slice a2 n2 c2, .int .i64 te] 47 (0, 0)) := (kept_al _ _).only.heap (heap_alloc_new w _) (by simp)
  have d2 : ((w.alloc (.cells #[.int .i64 k, .int .i64 f, .int .i64 t, .int .i64 e, .int .i64 o, .int .i64 p, .slice a1 n1 c1, .slice a2 n2 c2, .int .i64 te] 47)).alloc (.cells #[.int .i64 k', .int .i64 f', .int .i64 t', .int .i64 e', .int .i64 o', .int .i64 p', .slice a3 n3 c3, .slice a4 n4 c4, .int .i64 te'] 47)).heap[w.heap.size + 1]? = some (.cells #[.int .i64 k', .int .i64 f', .int .i64 t', .int .i64 e', .int .i64 o', .int .i64 p', .slice a3 n3 c3, .slice a4 n4 c4, .int .i64 te'] 47 (0, 0)) := new_at _ (by simp)
  obtain ⟨x0, x1, x2, x3, x4, x5, x6, x7, x8⟩ := nine_cells d1
  obtain ⟨y0, y1, y2, y3, y4, y5, y6, y7, y8⟩ := nine_cells d2
  have H1 := Lib.hid (h1.kept K)
  have H2 := Lib.hid (K.sl h2)
  have H3 := Lib.hid (h3.kept K)
  have H4 := Lib.hid (K.sl h4)
  have HB1 := Lib.hid b1
  have HB2 := Lib.hid b2
  obtain ⟨g, hg⟩ : ∃ g, decide (k = k' ∧ f = f' ∧ t = t' ∧ e = e' ∧ o = o' ∧ p = p' ∧ te = te' ∧ L = L' ∧ T = T') = g := ⟨_, rfl⟩
  rw [hg]
  have HG := Lib.hid hg
  clear h1 h2 h3 h4 d1 d2 b1 b2 hg
  by_cases h : k = k'
  rotate_left
  · have hgf : g = false := by rw [← HG.out]; exact decide_eq_false (fun hh => h hh.1)
    have tx : (k != k') = true := by simp [h]
    subst hgf
    clear h HG
    go_enter Try.func13, Try.ntmps13
    go_wp2
    exact bodyPost_ret (v := .bool false) (by simp [results, Try.results13, go_sem]) rfl ⟨rfl, K⟩
  subst h
  have t_k : (k != k) = false := by simp
  by_cases h : f = f'
  rotate_left
  · have hgf : g = false := by rw [← HG.out]; exact decide_eq_false (fun hh => h hh.2.1)
    have tx : (f != f') = true := by simp [h]
    subst hgf
    clear h HG
    go_enter Try.func13, Try.ntmps13
    go_wp2
    exact bodyPost_ret (v := .bool false) (by simp [results, Try.results13, go_sem]) rfl ⟨rfl, K⟩
  subst h
  have t_f : (f != f) = false := by simp
  by_cases h : t = t'
  rotate_left
  · have hgf : g = false := by rw [← HG.out]; exact decide_eq_false (fun hh => h hh.2.2.1)
    have tx : (t != t') = true := by simp [h]
    subst hgf
    clear h HG
    go_enter Try.func13, Try.ntmps13
    go_wp2
    exact bodyPost_ret (v := .bool false) (by simp [results, Try.results13, go_sem]) rfl ⟨rfl, K⟩
  subst h
  have t_t : (t != t) = false := by simp
  by_cases h : e = e'
  rotate_left
  · have hgf : g = false := by rw [← HG.out]; exact decide_eq_false (fun hh => h hh.2.2.2.1)
    have tx : (e != e') = true := by simp [h]
    subst hgf
    clear h HG
    go_enter Try.func13, Try.ntmps13
    go_wp2
    exact bodyPost_ret (v := .bool false) (by simp [results, Try.results13, go_sem]) rfl ⟨rfl, K⟩
  subst h
  have t_e : (e != e) = false := by simp
  by_cases h : o = o'
  rotate_left
  · have hgf : g = false := by rw [← HG.out]; exact decide_eq_false (fun hh => h hh.2.2.2.2.1)
    have tx : (o != o') = true := by simp [h]
    subst hgf
    clear h HG
    go_enter Try.func13, Try.ntmps13
    go_wp2
    exact bodyPost_ret (v := .bool false) (by simp [results, Try.results13, go_sem]) rfl ⟨rfl, K⟩
  subst h
  have t_o : (o != o) = false := by simp
  by_cases h : p = p'
  rotate_left
  · have hgf : g = false := by rw [← HG.out]; exact decide_eq_false (fun hh => h hh.2.2.2.2.2.1)
    have tx : (p != p') = true := by simp [h]
    subst hgf
    clear h HG
    go_enter Try.func13, Try.ntmps13
    go_wp2
    exact bodyPost_ret (v := .bool false) (by simp [results, Try.results13, go_sem]) rfl ⟨rfl, K⟩
  subst h
  have t_p : (p != p) = false := by simp
  by_cases h : n1 = n3
  rotate_left
  · have hgf : g = false := by rw [← HG.out]; exact decide_eq_false (by rintro ⟨_, _, _, _, _, _, _, hL, hT⟩; exact h (by rw [← hl1, ← hl3, hL]))
    have tx : ((n1 : Int) != (n3 : Int)) = true := by simp ; omega
    subst hgf
    clear h HG
    go_enter Try.func13, Try.ntmps13
    go_wp2
    exact bodyPost_ret (v := .bool false) (by simp [results, Try.results13, go_sem]) rfl ⟨rfl, K⟩
  subst h
  have t_n1 : ((n1 : Int) != n1) = false := by simp
  by_cases h : te = te'
  rotate_left
  · have hgf : g = false := by rw [← HG.out]; exact decide_eq_false (fun hh => h hh.2.2.2.2.2.2.1)
    have tx : (te != te') = true := by simp [h]
    subst hgf
    clear h HG
    go_enter Try.func13, Try.ntmps13
    go_wp2
    exact bodyPost_ret (v := .bool false) (by simp [results, Try.results13, go_sem]) rfl ⟨rfl, K⟩
  subst h
  have t_te : (te != te) = false := by simp
  by_cases h : n2 = n4
  rotate_left
  · have hgf : g = false := by rw [← HG.out]; exact decide_eq_false (by rintro ⟨_, _, _, _, _, _, _, hL, hT⟩; exact h (by rw [← hl2, ← hl4, hT]))
    have tx : ((n2 : Int) != (n4 : Int)) = true := by simp ; omega
    subst hgf
    clear h HG
    go_enter Try.func13, Try.ntmps13
    go_wp2
    exact bodyPost_ret (v := .bool false) (by simp [results, Try.results13, go_sem]) rfl ⟨rfl, K⟩
  subst h
  have t_n2 : ((n2 : Int) != n2) = false := by simp
  have HG2 : Hid (decide (L = L' ∧ T = T') = g) := by
    unfold Hid
    rw [← HG.out]
    congr 1
    simp
  clear HG
  go_enter Try.func13, Try.ntmps13
  go_upto_region 3 with fail
  generalize World.alloc (World.alloc w _) _ = X at *
  have HX6 := Lib.hid x6
  have HX7 := Lib.hid x7
  have HY6 := Lib.hid y6
  have HY7 := Lib.hid y7
  clear x0 x1 x2 x3 x4 x5 x6 x7 x8 y0 y1 y2 y3 y4 y5 y6 y7 y8 t_k t_f t_t t_e t_o t_p t_n1 t_te t_n2
  go_wp2_with fail
  go_loopw [5] (fun i wr => ∃ j : Nat, i = .int .i64 j ∧ j ≤ n1 ∧ Dr X wr ∧ Hid (∀ q, q < j → L[q]? = L'[q]?)) (fun i _ => n1 - (intOf i).toNat)
  case atStart => exact ⟨0, rfl, by omega, Dr.refl _, fun q h => by omega⟩
  case round =>
    obtain ⟨j, rfl, hj, hD, HE⟩ := hrel
    have KW : Kept X wr := (Kept.refl X).dr hD
    have z6 := KW.cel HX6.out
    have v6 := KW.cel HY6.out
    have z7 := KW.cel HX7.out
    by_cases hlt : j < n1
    · have hlt' : (j : Int) < n1 := by omega
      obtain ⟨l, hll⟩ : ∃ l, L[j]? = some l := ⟨_, List.getElem?_eq_getElem (by omega)⟩
      obtain ⟨l', hll'⟩ : ∃ l, L'[j]? = some l := ⟨_, List.getElem?_eq_getElem (by omega)⟩
      obtain ⟨b, ob, rfl, q0, q1⟩ := (H1.out.kept KW).2.2.2 j l hll
      obtain ⟨b', ob', rfl, r0, r1⟩ := (H3.out.kept KW).2.2.2 j l' hll'
      have HN := run_neqRR l.1 l'.1 (strOf l.2) (strOf l'.2)
      by_cases hq : l = l'
      · subst hq
        have HE2 : Hid (∀ q, q < j + 1 → L[q]? = L'[q]?) := fun q h => by
          rcases Nat.lt_or_ge q j with h' | h'
          · exact HE.out q h'
          · obtain rfl : q = j := by omega
            rw [hll, hll']
        rw [decide_eq_true ⟨rfl, rfl⟩] at HN
        generalize strOf l.2 = s at *
        generalize l.1 = v at *
        clear hll hll' HE
        go_upto_region 6 with fail
        go_quiet (fail)
        go_wp2
        go_roundw
        case rel => exact ⟨j + 1, by go_num, by omega, hD.trans ((Dr.refl _).drewN _), HE2.out⟩
        case measure => simp [intOf]; omega
      · have hgf : g = false := by
          rw [← HG2.out]
          refine decide_eq_false fun h => hq ?_
          rw [h.1, hll'] at hll
          injection hll with hll
          exact hll.symm
        have hne : ¬ (l.1 = l'.1 ∧ strOf l.2 = strOf l'.2) := fun h => hq (Prod.ext h.1 (strOf_inj (HB1.out l (List.mem_of_getElem? hll)) (HB2.out l' (List.mem_of_getElem? hll')) h.2))
        rw [decide_eq_false hne] at HN
        generalize strOf l.2 = s at *
        generalize strOf l'.2 = s' at *
        generalize l.1 = v at *
        generalize l'.1 = v' at *
        subst hgf
        clear hll hll' HE HG2 hne hq
        go_upto_region 6 with fail
        go_quiet (fail)
        go_wp2
        exact bodyPost_ret (v := .bool false) (by simp [results, Try.results13, go_sem]) rfl ⟨rfl, (K.trans KW).dr ((Dr.refl _).drewN _)⟩
    · have hge : (n1 : Int) ≤ j := by omega
      have hLL : L = L' := take_eq (by omega) (fun q h => HE.out q (by omega))
      have HG3 : Hid (decide (T = T') = g) := by unfold Hid; rw [← HG2.out]; congr 1; simp [hLL]
      clear HG2 HE hLL
      go_wp2_with fail
      go_loopw [6] (fun i wq => ∃ j : Nat, i = .int .i64 j ∧ j ≤ n2 ∧ Dr X wq ∧ Hid (∀ q, q < j → T.getD q 0 = T'.getD q 0)) (fun i _ => n2 - (intOf i).toNat)
      case atStart => exact ⟨0, rfl, by omega, hD, fun q h => by omega⟩
      case round =>
        clear z6 z7 v6 hlt hge KW hD
        obtain ⟨q, rfl, hq, hD, HE⟩ := hrel
        have KW : Kept X wr := (Kept.refl X).dr hD
        have z7 := KW.cel HX7.out
        have v7 := KW.cel HY7.out
        by_cases hlt : q < n2
        · have hlt' : (q : Int) < n2 := by omega
          obtain ⟨b, ob, v, rfl, q0, hv⟩ := (KW.sl H2.out).at q hlt
          obtain ⟨b', ob', v', rfl, r0, hv'⟩ := (KW.sl H4.out).at q hlt
          by_cases hvv : v = v'
          · have HE2 : Hid (∀ i, i < q + 1 → T.getD i 0 = T'.getD i 0) := fun i h => by
              rcases Nat.lt_or_ge i q with h' | h'
              · exact HE.out i h'
              · obtain rfl : i = q := by omega
                rw [← hv.out, ← hv'.out, hvv]
            have tvv : (v != v') = false := by simp [hvv]
            clear hv hv' hvv HE
            go_upto_region 11 with fail
            go_quiet (fail)
            go_wp2
            go_roundw
            case rel => exact ⟨q + 1, by go_num, by omega, hD.trans ((Dr.refl _).drewN _), HE2.out⟩
            case measure => simp [intOf]; omega
          · have hgf : g = false := by
              rw [← HG3.out]
              refine decide_eq_false fun h => hvv ?_
              rw [hv.out, hv'.out, h]
            have tvv : (v != v') = true := by simp [hvv]
            subst hgf
            clear hv hv' hvv HE HG3
            go_upto_region 11 with fail
            go_quiet (fail)
            go_wp2
            exact bodyPost_ret (v := .bool false) (by simp [results, Try.results13, go_sem]) rfl ⟨rfl, (K.trans KW).dr ((Dr.refl _).drewN _)⟩
        · have hge : (n2 : Int) ≤ q := by omega
          have hgt : g = true := by
            rw [← HG3.out]
            refine decide_eq_true (take_eq (by omega) fun i hi => ?_)
            have h := HE.out i (by omega)
            rw [List.getD_eq_getElem?_getD, List.getD_eq_getElem?_getD, List.getElem?_eq_getElem hi, List.getElem?_eq_getElem (by omega)] at h
            rw [List.getElem?_eq_getElem hi, List.getElem?_eq_getElem (by omega)]
            simpa using h
          subst hgt
          clear HG3 HE
          go_wp2
          exact bodyPost_ret (v := .bool true) (by simp [results, Try.results13, go_sem]) rfl ⟨rfl, K.trans KW⟩
set_option maxRecDepth 100000 in
set_option maxHeartbeats 2000000 in
theorem sh_heavy2 (m : MV) (L : List (Int × Nat)) (w : World) (hL : SlM w m.la m.ln m.lc L) (htn : m.tn ≤ m.tc) (htc : m.tc ≤ maxLen) :
    Calls Try.prog 12 #[.agg m.cs] w fun e w' => (e = .returned (.bool true) ∨ (e = .returned (.bool false) ∧ m.ln ≤ 12 ∧ m.tn ≤ 70 ∧ ∀ l ∈ L, l.2 ≤ 1100)) ∧ Kept w w' := by
  obtain ⟨k, f, t, e, o, p, la, ln, lc, ta, tn, tc, te⟩ := m
  unfold MV.cs
  dsimp only at *
  unfold maxLen at htc
  have K := kept_al w (.cells #[.int .i64 k, .int .i64 f, .int .i64 t, .int .i64 e, .int .i64 o, .int .i64 p, .slice la ln lc, .slice ta tn tc, .int .i64 te] 29)
  have hh := heap_alloc_new w (.cells #[.int .i64 k, .int .i64 f, .int .i64 t, .int .i64 e, .int .i64 o, .int .i64 p, .slice la ln lc, .slice ta tn tc, .int .i64 te] 29)
  have HL := Lib.hid (hL.kept K)
  have hl := hL.1
  have hnc := hL.2.1
  have hcm := hL.2.2.1
  unfold maxLen at hcm
  have d6 := at_cell hh 6 _ rfl
  have d7 := at_cell hh 7 _ rfl
  clear hh hL
  generalize hX : w.alloc (.cells #[.int .i64 k, .int .i64 f, .int .i64 t, .int .i64 e, .int .i64 o, .int .i64 p, .slice la ln lc, .slice ta tn tc, .int .i64 te] 29) = X at *
  by_cases h1 : 12 < (ln : Int)
  · go_enter Try.func12, Try.ntmps12
    go_wp2
    go_ret
    exact ⟨.inl rfl, K⟩
  · by_cases h2 : 70 < (tn : Int)
    · go_enter Try.func12, Try.ntmps12
      go_wp2
      go_ret
      exact ⟨.inl rfl, K⟩
    · go_enter Try.func12, Try.ntmps12
      go_wp2_with fail
      go_loopw [3] (fun i wr => ∃ (j : Nat), i = .int .i64 j ∧ j ≤ ln ∧ X = wr ∧ Hid (∀ (q : Nat) (l : Int × Nat), q < j → L[q]? = some l → l.2 ≤ 1100)) (fun i _ => ln - (intOf i).toNat)
      case atStart => exact ⟨0, rfl, by omega, (by first | trivial | rfl), by intro q l h; omega⟩
      case round =>
        obtain ⟨j, rfl, hj, rfl, HM⟩ := hrel
        by_cases hlt : j < ln
        · have hlt' : (j : Int) < ln := by omega
          obtain ⟨⟨s, len⟩, hsl⟩ : ∃ l, L[j]? = some l := ⟨_, List.getElem?_eq_getElem (by omega)⟩
          obtain ⟨hb, b, ob, x, d, rfl, q0, q1⟩ := HL.out.2.2.2 j _ hsl
          dsimp only at q0 q1
          by_cases h3 : 1100 < (len : Int)
          · go_wp2
            go_ret
            exact ⟨.inl rfl, K⟩
          · have HN : Hid (∀ (q : Nat) (l : Int × Nat), q < j + 1 → L[q]? = some l → l.2 ≤ 1100) := by
              intro q l hq hql
              rcases Nat.lt_or_ge q j with h | h
              · exact HM.out q l h hql
              · obtain rfl : q = j := by omega
                rw [hsl] at hql
                injection hql with hql
                subst hql
                show len ≤ 1100
                omega
            clear HM
            go_wp2
            go_roundw
            case rel => exact ⟨j + 1, by go_num, by omega, (by first | trivial | rfl), HN.out⟩
            case measure => simp [intOf]; omega
        · have hge : (ln : Int) ≤ j := by omega
          have HN : Hid (∀ l ∈ L, l.2 ≤ 1100) := by
            intro l hl2
            obtain ⟨q, hq, rfl⟩ := List.mem_iff_getElem.1 hl2
            exact HM.out q _ (by omega) (List.getElem?_eq_getElem hq)
          clear HM
          go_wp2
          go_ret
          exact ⟨.inr ⟨rfl, by omega, by omega, HN.out⟩, K⟩
end Go.Proofs.Ytpojncpblkklgaa
