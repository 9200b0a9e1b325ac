/- Graphs, the document's: is there an edge; may a graph be so. -/
import Derived.Test.YtmejphlpcgochaaGrI
import Derived.Test.YtmejphlpcgochaaGrM3
import Derived.Test.YtmejphlpcgochaaGrReach
set_option linter.unusedVariables false
set_option linter.unusedSimpArgs false
namespace Go.Proofs.Ytmejphlpcgochaa
open Go.RowKit
theorem take_mem_succ {α : Type} {l : List α} {q : Nat} {x : α} (h : l[q]? = some x) (y : α) : y ∈ l.take (q + 1) ↔ y ∈ l.take q ∨ y = x := by
  rw [List.take_add_one, h, List.mem_append]; simp
set_option maxRecDepth 100000 in
set_option maxHeartbeats 4000000 in
theorem r_has {w : World} {s : Option Addr} {n c : Nat} {E : List Ed} (N a b : Int) (hE : SlE w s n c E) (hn : n ≤ 900) : Calls Try.prog 42 #[.agg #[.int .i64 N, .slice s n c], .int .i64 a, .int .i64 b] w fun e w' => e = .returned (.bool (hasE E (a, b))) ∧ Kept w w' := by
  have hl := hE.1
  have hnc := hE.2.1
  have hB := heap_alloc_new w (.cells #[.int .i64 N, .slice s n c] 41)
  have K1 := kept_al w (.cells #[.int .i64 N, .slice s n c] 41)
  have HK1 := Lib.hid K1
  have HE := Lib.hid (hE.kept K1)
  have HB := Lib.hid hB
  clear hB K1 hE
  go_enter Try.func42, Try.ntmps42
  go_wp2_with fail
  generalize World.alloc w _ = V at *
  generalize w.heap.size = bx at *
  go_loopw [7] (fun i wr => ∃ j : Nat, i = .int .i64 (j : Nat) ∧ j ≤ n ∧ Hid (Dr V wr) ∧ Hid ((a, b) ∉ E.take j)) (fun i _ => n - (intOf i).toNat)
  case atStart => exact ⟨0, rfl, by omega, Dr.refl V, by simp [Hid]⟩
  case round =>
    obtain ⟨j, rfl, hj, HD, HI⟩ := hrel
    have K2 : Kept V wr := (Kept.refl V).dr HD.out
    have b1 := at_cell (K2.only.heap HB.out (by simp)) 1 (.slice s n c) rfl
    by_cases hlt : j < n
    · have hlt' : (j : Int) < n := by omega
      obtain ⟨⟨xa, xb⟩, hx⟩ : ∃ x, E[j]? = some x := ⟨_, List.getElem?_eq_getElem (by omega)⟩
      obtain ⟨bs, o, rfl, q0, q1⟩ := (HE.out.kept K2).at hx
      dsimp only at q0 q1
      have HX := Lib.hid hx
      have HT := Lib.hid (take_mem_succ hx (a, b))
      have hnext : (xa, xb) ≠ (a, b) → Hid ((a, b) ∉ E.take (j + 1)) := fun h h2 => by
        rcases HT.out.1 h2 with h3 | h3
        · exact HI.out h3
        · exact h h3.symm
      have HN := Lib.hid hnext
      clear hx K2 hnext
      by_cases h1 : xa = a
      · subst h1
        by_cases h2 : xb = b
        · subst h2
          have HR : Hid (hasE E (xa, xb) = true) := hasE_iff.2 (List.mem_of_getElem? HX.out)
          go_wp2_with fail
          go_ret
          exact ⟨ret_bool HR.out.symm, HK1.out.dr HD.out⟩
        · have hbf : (xb == b) = false := beq_eq_false_iff_ne.2 h2
          have HN2 := Lib.hid (HN.out (by rintro ⟨⟩; exact h2 rfl))
          go_wp2_with fail
          go_roundw
          case rel => exact ⟨j + 1, by go_num, by omega, HD.out, HN2.out⟩
          case measure => simp [intOf]; omega
      · have hbf : (xa == a) = false := beq_eq_false_iff_ne.2 h1
        have HN2 := Lib.hid (HN.out (by rintro ⟨⟩; exact h1 rfl))
        go_wp2_with fail
        go_roundw
        case rel => exact ⟨j + 1, by go_num, by omega, HD.out, HN2.out⟩
        case measure => simp [intOf]; omega
    · have hge : (n : Int) ≤ j := by omega
      have HR : Hid (hasE E (a, b) = false) := by
        have := HI.out
        rw [List.take_of_length_le (by omega)] at this
        exact Bool.eq_false_iff.2 fun h => this (hasE_iff.1 h)
      clear K2
      go_wp2_with fail
      go_ret
      exact ⟨ret_bool HR.out.symm, HK1.out.dr HD.out⟩
theorem run_eqAr (a b c d : Int) (w : World) : (binOp .eql 32 (.agg #[.int .i64 a, .int .i64 b]) (.agg #[.int .i64 c, .int .i64 d])).run Try.prog w = .ok (.bool (edEq a b c d)) w := by
  rw [run_eql_struct, equalIn_ar _ Try.underlying32]; rfl
set_option maxRecDepth 100000 in
set_option maxHeartbeats 8000000 in
theorem r_good {w : World} {s : Option Addr} {n c : Nat} {E : List Ed} (N : Int) (hE : SlE w s n c E) (hn : n ≤ 900) : Calls Try.prog 35 #[.agg #[.int .i64 N, .slice s n c]] w fun e w' => e = .returned (.bool (goodG N E)) ∧ Kept w w' := by
  have hl := hE.1
  have hnc := hE.2.1
  have hB := heap_alloc_new w (.cells #[.int .i64 N, .slice s n c] 41)
  have K1 := kept_al w (.cells #[.int .i64 N, .slice s n c] 41)
  have HK1 := Lib.hid K1
  have HE := Lib.hid (hE.kept K1)
  have HB := Lib.hid hB
  have b0 := at_cell hB 0 _ rfl
  clear hB K1 hE
  by_cases hN : 0 ≤ N ∧ N ≤ 16
  · have g1 : ¬ N < 0 := by omega
    have g2 : ¬ 16 < N := by omega
    have HG : Hid (goodG N E = goodA N E []) := by unfold Hid goodG; rw [decide_eq_true hN]; rfl
    have HNe := run_eqAr
    go_enter Try.func35, Try.ntmps35
    go_wp2_with fail
    generalize World.alloc w _ = V at *
    generalize w.heap.size = bx at *
    clear b0
    go_loopw [3] (fun i wr => ∃ j : Nat, i = .int .i64 (j : Nat) ∧ j ≤ n ∧ Hid (Dr V wr) ∧ Hid (goodG N E = goodA N (E.drop j) (E.take j))) (fun i _ => n - (intOf i).toNat)
    case atStart => exact ⟨0, rfl, by omega, Dr.refl V, HG.out⟩
    case round =>
      obtain ⟨j, rfl, hj, HD, HGj⟩ := hrel
      have K2 : Kept V wr := (Kept.refl V).dr HD.out
      have c0 := at_cell (K2.only.heap HB.out (by simp)) 0 (.int .i64 N) rfl
      have c1 := at_cell (K2.only.heap HB.out (by simp)) 1 (.slice s n c) rfl
      by_cases hlt : j < n
      · have hlt' : (j : Int) < n := by omega
        obtain ⟨⟨xa, xb⟩, hx⟩ : ∃ x, E[j]? = some x := ⟨_, List.getElem?_eq_getElem (by omega)⟩
        have HGs := HGj.out
        rw [goodA_step N E j _ hx] at HGs
        have HGs2 : Hid (goodG N E = (okE N (xa, xb) && !(E.take j).contains (xa, xb) && goodA N (E.drop (j + 1)) (E.take (j + 1)))) := HGs
        obtain ⟨bs, o, rfl, q0, q1⟩ := (HE.out.kept K2).at hx
        dsimp only at q0 q1
        have HX := Lib.hid hx
        clear hx K2 HGs
        by_cases hok : (0 ≤ xa ∧ xa < N) ∧ (0 ≤ xb ∧ xb < N) ∧ xa ≠ xb
        · have HGs3 : Hid (goodG N E = (!(E.take j).contains (xa, xb) && goodA N (E.drop (j + 1)) (E.take (j + 1)))) := by
            have h0 : okE N (xa, xb) = true := by
              unfold okE inG
              simp [hok]
            unfold Hid
            rw [HGs2.out, h0, Bool.true_and]
          have f1 : decide (xa < 0) = false := decide_eq_false (by omega)
          have f2 : decide (N ≤ xa) = false := decide_eq_false (by omega)
          have f3 : decide (xb < 0) = false := decide_eq_false (by omega)
          have f4 : decide (N ≤ xb) = false := decide_eq_false (by omega)
          have f5 : (xa == xb) = false := beq_eq_false_iff_ne.2 hok.2.2
          go_wp2_with fail
          go_quiet (fail)
          go_wp2_with fail
          clear c0 q0 q1 f1 f2 f3 f4 f5
          go_loopw [6] (fun v wx => ∃ q : Nat, v = .int .i64 (q : Nat) ∧ q ≤ j ∧ Hid (Dr V wx) ∧ Hid ((xa, xb) ∉ E.take q)) (fun v _ => j - (intOf v).toNat)
          case atStart => exact ⟨0, rfl, by omega, HD.out.trans ((Dr.refl _).drewN _), by simp [Hid]⟩
          case round =>
            obtain ⟨q, rfl, hq, HDq, HI⟩ := hrel
            have K3 : Kept V wr := (Kept.refl V).dr HDq.out
            have d1 := at_cell (K3.only.heap HB.out (by simp)) 1 (.slice (some ⟨bs, o, none⟩) n c) rfl
            by_cases hlq : q < j
            · have hlq' : (q : Int) < j := by omega
              obtain ⟨⟨ya, yb⟩, hy⟩ : ∃ x, E[q]? = some x := ⟨_, List.getElem?_eq_getElem (by omega)⟩
              obtain ⟨bs', o', hbo, r0, r1⟩ := (HE.out.kept K3).at hy
              injection hbo with hbo
              injection hbo with e1 e2
              subst e1 e2
              obtain ⟨bs', o', hbo, q0, q1⟩ := (HE.out.kept K3).at HX.out
              injection hbo with hbo
              injection hbo with e1 e2
              subst e1 e2
              dsimp only at q0 q1 r0 r1
              have HY := Lib.hid hy
              have HT := Lib.hid (take_mem_succ hy (xa, xb))
              clear hy K3
              cases hxy : edEq ya yb xa xb with
              | true =>
                have hR : goodG N E = false := by
                  have h1 := of_decide_eq_true hxy
                  have hm : (xa, xb) ∈ E.take j := by
                    have h2 : (E.take j)[q]? = some (ya, yb) := by rw [List.getElem?_take, if_pos hlq]; exact HY.out
                    rw [← h1.1, ← h1.2]
                    exact List.mem_of_getElem? h2
                  rw [HGs3.out, List.contains_iff_mem.2 hm]; rfl
                have HR := Lib.hid hR
                clear hR
                go_wp2_with fail
                go_quiet (fail)
                go_wp2_with fail
                go_ret
                exact ⟨ret_bool HR.out.symm, HK1.out.dr (HDq.out.trans ((Dr.refl _).drewN _))⟩
              | false =>
                have HI2 : Hid ((xa, xb) ∉ E.take (q + 1)) := fun h => by
                  rcases HT.out.1 h with h | h
                  · exact HI.out h
                  · injection h with h1 h2
                    exact of_decide_eq_false hxy ⟨h1.symm, h2.symm⟩
                go_wp2_with fail
                go_quiet (fail)
                go_wp2_with fail
                go_roundw
                case rel => exact ⟨q + 1, by go_num, by omega, HDq.out.trans ((Dr.refl _).drewN _), HI2.out⟩
                case measure => simp [intOf]; omega
            · obtain rfl : q = j := by omega
              have HG4 : Hid (goodG N E = goodA N (E.drop (q + 1)) (E.take (q + 1))) := by
                unfold Hid
                rw [HGs3.out, Bool.eq_false_iff.2 (fun h => HI.out (List.contains_iff_mem.1 h))]; rfl
              clear K3
              go_wp2_with fail
              go_roundw
              case rel => exact ⟨q + 1, by go_num, by omega, HDq.out, HG4.out⟩
              case measure => simp [intOf]; omega
        · have HR : Hid (goodG N E = false) := by
            have h0 : okE N (xa, xb) = false := by
              unfold okE inG
              rw [Bool.eq_false_iff]
              intro h
              simp at h
              exact hok ⟨h.1.1, h.1.2, h.2⟩
            unfold Hid
            rw [HGs2.out, h0]; rfl
          clear HGs2 HGj
          go_wp2_with fail
          go_quiet (fail)
          by_cases t1 : xa < 0
          · go_wp2_with fail
            go_ret
            exact ⟨ret_bool HR.out.symm, HK1.out.dr (HD.out.trans ((Dr.refl _).drewN _))⟩
          · by_cases t2 : N ≤ xa
            · go_wp2_with fail
              go_ret
              exact ⟨ret_bool HR.out.symm, HK1.out.dr (HD.out.trans ((Dr.refl _).drewN _))⟩
            · by_cases t3 : xb < 0
              · go_wp2_with fail
                go_ret
                exact ⟨ret_bool HR.out.symm, HK1.out.dr (HD.out.trans ((Dr.refl _).drewN _))⟩
              · by_cases t4 : N ≤ xb
                · go_wp2_with fail
                  go_ret
                  exact ⟨ret_bool HR.out.symm, HK1.out.dr (HD.out.trans ((Dr.refl _).drewN _))⟩
                · obtain rfl : xa = xb := by
                    by_cases h : xa = xb
                    · exact h
                    · exact absurd ⟨⟨by omega, by omega⟩, ⟨by omega, by omega⟩, h⟩ hok
                  have t5 : (xa == xa) = true := beq_self_eq_true _
                  go_wp2_with fail
                  go_ret
                  exact ⟨ret_bool HR.out.symm, HK1.out.dr (HD.out.trans ((Dr.refl _).drewN _))⟩
      · have HR : Hid (goodG N E = true) := by
          unfold Hid
          rw [HGj.out, List.drop_of_length_le (by omega)]; rfl
        clear K2
        go_wp2_with fail
        go_ret
        exact ⟨ret_bool HR.out.symm, HK1.out.dr HD.out⟩
  · have HR : Hid (goodG N E = false) := by
      unfold Hid goodG
      rw [decide_eq_false hN]; rfl
    by_cases h1 : N < 0
    · go_enter Try.func35, Try.ntmps35
      go_wp2_with fail
      go_ret
      exact ⟨ret_bool HR.out.symm, HK1.out⟩
    · have h2 : 16 < N := by omega
      go_enter Try.func35, Try.ntmps35
      go_wp2_with fail
      go_ret
      exact ⟨ret_bool HR.out.symm, HK1.out⟩
end Go.Proofs.Ytmejphlpcgochaa
