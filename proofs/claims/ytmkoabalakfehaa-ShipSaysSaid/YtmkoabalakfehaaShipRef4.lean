/- alike, on messages that are alike; heavy, with what it tells. -/
import Derived.Test.YtmkoabalakfehaaShipRef3
set_option linter.unusedVariables false
set_option linter.unusedSimpArgs false
namespace Go.Proofs.Ytmkoabalakfehaa
open Go.RowKit
theorem eqRR (a : Int) (s : ByteArray) (w : World) : (Op.equalIn 10000 82 (.agg #[.int .u64 a, .string s]) (.agg #[.int .u64 a, .string s])).run Try.prog w = .ok true w := by
  have hS : Try.prog.underlying 82 = some (.struct (Try.prog.fieldsOf 82)) := by kernel_rfl
  have hp : Try.prog.stoodInHeld 82 = false := by kernel_rfl
  rw [show (10000 : Nat) = 9999 + 1 from rfl, run_equalIn_agg w 9999 82 _ _ hS hp]
  simp only [Program.fieldsOf, Try.underlying82]
  go_simp
theorem run_neqRR (a : Int) (s : ByteArray) (w : World) : (binOp .neq 82 (.agg #[.int .u64 a, .string s]) (.agg #[.int .u64 a, .string s])).run Try.prog w = .ok (.bool false) w := by
  rw [run_neq_struct, eqRR]; rfl
set_option maxRecDepth 100000 in
set_option maxHeartbeats 4000000 in
theorem law_alike (k f t e o p te : Int) (a1 : Option Addr) (ln c1 : Nat) (a2 : Option Addr) (tn c2 : Nat) (a3 : Option Addr) (c3 : Nat) (a4 : Option Addr) (c4 : Nat) (L : List (Int × List Int)) (T : List Int) (w : World)
    (h1 : SlRR w a1 ln c1 L) (h2 : Sl .u64 w a2 tn c2 T) (h3 : SlRR w a3 ln c3 L) (h4 : Sl .u64 w a4 tn c4 T) :
    Calls Try.prog 23 #[.agg #[.int .i64 k, .int .i64 f, .int .i64 t, .int .i64 e, .int .i64 o, .int .i64 p, .slice a1 ln c1, .slice a2 tn c2, .int .i64 te], .agg #[.int .i64 k, .int .i64 f, .int .i64 t, .int .i64 e, .int .i64 o, .int .i64 p, .slice a3 ln c3, .slice a4 tn c4, .int .i64 te]] w fun e w' => e = .returned (.bool true) ∧ Kept w w' := by
  have hl := h1.1
  have hn1 := h1.2.1
  have hc1 := h1.2.2.1
  have hn3 := h3.2.1
  have hc3 := h3.2.2.1
  have hn2 := h2.2.1
  have hc2 := h2.2.2.1
  have hn4 := h4.2.1
  have hc4 := h4.2.2.1
  unfold maxLen at hc1 hc2 hc3 hc4
  have K : Kept w ((w.alloc (.cells #[.int .i64 k, .int .i64 f, .int .i64 t, .int .i64 e, .int .i64 o, .int .i64 p, .slice a1 ln c1, .slice a2 tn c2, .int .i64 te] 54)).alloc (.cells #[.int .i64 k, .int .i64 f, .int .i64 t, .int .i64 e, .int .i64 o, .int .i64 p, .slice a3 ln c3, .slice a4 tn c4, .int .i64 te] 54)) := (kept_al w _).trans (kept_al _ _)
  have b1 : ((w.alloc (.cells #[.int .i64 k, .int .i64 f, .int .i64 t, .int .i64 e, .int .i64 o, .int .i64 p, .slice a1 ln c1, .slice a2 tn c2, .int .i64 te] 54)).alloc (.cells #[.int .i64 k, .int .i64 f, .int .i64 t, .int .i64 e, .int .i64 o, .int .i64 p, .slice a3 ln c3, .slice a4 tn c4, .int .i64 te] 54)).heap[w.heap.size]? = some (.cells #[.int .i64 k, .int .i64 f, .int .i64 t, .int .i64 e, .int .i64 o, .int .i64 p, .slice a1 ln c1, .slice a2 tn c2, .int .i64 te] 54 (0, 0)) := (kept_al _ _).only.heap (heap_alloc_new w _) (by simp)
  have b2 : ((w.alloc (.cells #[.int .i64 k, .int .i64 f, .int .i64 t, .int .i64 e, .int .i64 o, .int .i64 p, .slice a1 ln c1, .slice a2 tn c2, .int .i64 te] 54)).alloc (.cells #[.int .i64 k, .int .i64 f, .int .i64 t, .int .i64 e, .int .i64 o, .int .i64 p, .slice a3 ln c3, .slice a4 tn c4, .int .i64 te] 54)).heap[w.heap.size + 1]? = some (.cells #[.int .i64 k, .int .i64 f, .int .i64 t, .int .i64 e, .int .i64 o, .int .i64 p, .slice a3 ln c3, .slice a4 tn c4, .int .i64 te] 54 (0, 0)) := new_at _ (by simp)
  obtain ⟨x0, x1, x2, x3, x4, x5, x6, x7, x8⟩ := nine_cells b1
  obtain ⟨y0, y1, y2, y3, y4, y5, y6, y7, y8⟩ := nine_cells b2
  have H1 := Lib.hid (h1.kept K)
  have H2 := Lib.hid (K.sl h2)
  have H3 := Lib.hid (h3.kept K)
  have H4 := Lib.hid (K.sl h4)
  have tk : (k != k) = false := by simp
  have tf : (f != f) = false := by simp
  have tt : (t != t) = false := by simp
  have tE : (e != e) = false := by simp
  have tO : (o != o) = false := by simp
  have tp : (p != p) = false := by simp
  have tte : (te != te) = false := by simp
  have tln : ((ln : Int) != ln) = false := by simp
  have ttn : ((tn : Int) != tn) = false := by simp
  clear h1 h2 h3 h4 b1 b2
  go_enter Try.func23, Try.ntmps23
  go_upto_region 3 with fail
  generalize World.alloc (World.alloc w _) _ = X at *
  have HX7 := Lib.hid x7
  have HY7 := Lib.hid y7
  clear x0 x1 x2 x3 x4 x5 x8 y0 y1 y2 y3 y4 y5 y8 tk tf tt tE tO tp tte tln ttn
  go_wp2_with fail
  go_loopw [5] (fun i wr => ∃ j : Nat, i = .int .i64 j ∧ j ≤ ln ∧ Dr X wr) (fun i _ => ln - (intOf i).toNat)
  case atStart => exact ⟨0, rfl, by omega, Dr.refl _⟩
  case round =>
    obtain ⟨j, rfl, hj, hD⟩ := hrel
    have KW : Kept X wr := (Kept.refl X).dr hD
    have z6 := KW.cel x6
    have z7 := KW.cel x7
    have v6 := KW.cel y6
    have v7 := KW.cel y7
    by_cases hlt : j < ln
    · have hlt' : (j : Int) < ln := by omega
      obtain ⟨l, hll⟩ : ∃ l, L[j]? = some l := ⟨_, List.getElem?_eq_getElem (by omega)⟩
      obtain ⟨b, ob, rfl, q0, q1⟩ := (H1.out.kept KW).2.2.2 j l hll
      obtain ⟨b', ob', rfl, r0, r1⟩ := (H3.out.kept KW).2.2.2 j l hll
      have HN := run_neqRR l.1 (strOf l.2)
      generalize strOf l.2 = s at *
      generalize l.1 = v at *
      clear hll x6 x7 y6 y7
      go_upto_region 6 with fail
      go_quiet (fail)
      go_wp2
      go_roundw
      case rel => exact ⟨j + 1, by go_num, by omega, hD.trans ((Dr.refl _).drewN _)⟩
      case measure => simp [intOf]; omega
    · have hge : (ln : Int) ≤ j := by omega
      clear x6 x7 y6 y7
      go_wp2_with fail
      go_loopw [6] (fun i wq => ∃ j : Nat, i = .int .i64 j ∧ j ≤ tn ∧ Dr X wq) (fun i _ => tn - (intOf i).toNat)
      case atStart => exact ⟨0, rfl, by omega, hD⟩
      case round =>
        clear z6 z7 v6 v7 hlt hge KW hD
        obtain ⟨q, rfl, hq, hD⟩ := hrel
        have KW : Kept X wr := (Kept.refl X).dr hD
        have z7 := KW.cel HX7.out
        have v7 := KW.cel HY7.out
        by_cases hlt : q < tn
        · have hlt' : (q : Int) < tn := by omega
          obtain ⟨b, ob, v, rfl, q0, hv⟩ := (KW.sl H2.out).at q hlt
          obtain ⟨b', ob', v', rfl, r0, hv'⟩ := (KW.sl H4.out).at q hlt
          obtain rfl : v' = v := hv'.out.trans hv.out.symm
          have tvv : (v' != v') = false := by simp
          clear hv hv'
          go_upto_region 11 with fail
          go_quiet (fail)
          go_wp2
          go_roundw
          case rel => exact ⟨q + 1, by go_num, by omega, hD.trans ((Dr.refl _).drewN _)⟩
          case measure => simp [intOf]; omega
        · have hge : (tn : Int) ≤ q := by omega
          go_wp2
          go_ret
          exact ⟨rfl, K.trans KW⟩
set_option maxRecDepth 100000 in
set_option maxHeartbeats 2000000 in
theorem sh_heavy2 (m : MV) (L : List (Int × Nat)) (w : World) (hL : SlM w m.la m.ln m.lc L) (htn : m.tn ≤ m.tc) (htc : m.tc ≤ maxLen) :
    Calls Try.prog 10 #[.agg m.cs] w fun e w' => (e = .returned (.bool true) ∨ (e = .returned (.bool false) ∧ m.ln ≤ 12 ∧ m.tn ≤ 70 ∧ ∀ l ∈ L, l.2 ≤ 1100)) ∧ Kept w w' := by
  obtain ⟨k, f, t, e, o, p, la, ln, lc, ta, tn, tc, te⟩ := m
  unfold MV.cs
  dsimp only at *
  unfold maxLen at htc
  have K := kept_al w (.cells #[.int .i64 k, .int .i64 f, .int .i64 t, .int .i64 e, .int .i64 o, .int .i64 p, .slice la ln lc, .slice ta tn tc, .int .i64 te] 36)
  have hh := heap_alloc_new w (.cells #[.int .i64 k, .int .i64 f, .int .i64 t, .int .i64 e, .int .i64 o, .int .i64 p, .slice la ln lc, .slice ta tn tc, .int .i64 te] 36)
  have HL := Lib.hid (hL.kept K)
  have hl := hL.1
  have hnc := hL.2.1
  have hcm := hL.2.2.1
  unfold maxLen at hcm
  have d6 := at_cell hh 6 _ rfl
  have d7 := at_cell hh 7 _ rfl
  clear hh hL
  generalize hX : w.alloc (.cells #[.int .i64 k, .int .i64 f, .int .i64 t, .int .i64 e, .int .i64 o, .int .i64 p, .slice la ln lc, .slice ta tn tc, .int .i64 te] 36) = X at *
  by_cases h1 : 12 < (ln : Int)
  · go_enter Try.func10, Try.ntmps10
    go_wp2
    go_ret
    exact ⟨.inl rfl, K⟩
  · by_cases h2 : 70 < (tn : Int)
    · go_enter Try.func10, Try.ntmps10
      go_wp2
      go_ret
      exact ⟨.inl rfl, K⟩
    · go_enter Try.func10, Try.ntmps10
      go_wp2_with fail
      go_loopw [3] (fun i wr => ∃ (j : Nat), i = .int .i64 j ∧ j ≤ ln ∧ X = wr ∧ Hid (∀ (q : Nat) (l : Int × Nat), q < j → L[q]? = some l → l.2 ≤ 1100)) (fun i _ => ln - (intOf i).toNat)
      case atStart => exact ⟨0, rfl, by omega, (by first | trivial | rfl), by intro q l h; omega⟩
      case round =>
        obtain ⟨j, rfl, hj, rfl, HM⟩ := hrel
        by_cases hlt : j < ln
        · have hlt' : (j : Int) < ln := by omega
          obtain ⟨⟨s, len⟩, hsl⟩ : ∃ l, L[j]? = some l := ⟨_, List.getElem?_eq_getElem (by omega)⟩
          obtain ⟨hb, b, ob, x, d, rfl, q0, q1⟩ := HL.out.2.2.2 j _ hsl
          dsimp only at q0 q1
          by_cases h3 : 1100 < (len : Int)
          · go_wp2
            go_ret
            exact ⟨.inl rfl, K⟩
          · have HN : Hid (∀ (q : Nat) (l : Int × Nat), q < j + 1 → L[q]? = some l → l.2 ≤ 1100) := by
              intro q l hq hql
              rcases Nat.lt_or_ge q j with h | h
              · exact HM.out q l h hql
              · obtain rfl : q = j := by omega
                rw [hsl] at hql
                injection hql with hql
                subst hql
                show len ≤ 1100
                omega
            clear HM
            go_wp2
            go_roundw
            case rel => exact ⟨j + 1, by go_num, by omega, (by first | trivial | rfl), HN.out⟩
            case measure => simp [intOf]; omega
        · have hge : (ln : Int) ≤ j := by omega
          have HN : Hid (∀ l ∈ L, l.2 ≤ 1100) := by
            intro l hl2
            obtain ⟨q, hq, rfl⟩ := List.mem_iff_getElem.1 hl2
            exact HM.out q _ (by omega) (List.getElem?_eq_getElem hq)
          clear HM
          go_wp2
          go_ret
          exact ⟨.inr ⟨rfl, by omega, by omega, HN.out⟩, K⟩
end Go.Proofs.Ytmkoabalakfehaa
