/- BagPlays: the switch, case 2. -/
import Derived.Test.YtnnjflljlooifaaBagPlaysB
set_option linter.unusedVariables false
set_option linter.unusedSimpArgs false
namespace Go.Proofs.Ytnnjflljlooifaa
open Go.RowKit
set_option maxRecDepth 1000000 in
set_option maxHeartbeats 16000000 in
theorem plays_op2 {X Y : World} {p qa m cw : Nat} {g gw : Option Nat} {A : List (Int × Int)} {aw : Option Addr} {th : Bool} {op ix n : Int} (HBx : Hid (BagW X Y p g A)) (HAl : Hid (A.length = m)) (HWx : Hid (App Y 33 9 (.slice aw m cw) m gw (wantV A))) (hm : m ≤ 64) (hwc : m ≤ cw) (hwm : cw ≤ maxLen) (i0 : -9223372036854775808 ≤ ix) (i1 : ix ≤ 9223372036854775807) (n0 : -9223372036854775808 ≤ n) (n1 : n ≤ 9223372036854775807)
    (HQ : Hid (∀ V, Only (p :: g.toList) Y V → V.cell? ⟨qa, 0, none⟩ = some (.int .i64 op) ∧ V.cell? ⟨qa, 1, none⟩ = some (.int .i64 ix) ∧ V.cell? ⟨qa, 2, none⟩ = some (.int .i64 n))) (HTh : Hid (th = decide (0 ≤ ix ∧ ix < m))) (b0 : (op == 0) = false) (b1 : (op == 1) = false) (b2 : (op == 2) = true) (c0 c1 c2 c5 c8 c9 c10 c11 c12 c13 c14 c15 c16 c17 c18 c19 c20 c21 c22 c23 c24 c25 c26 c27 c28 c29 c30 c31 c32 c33 c34 c35 c36 c37 c38 c39 c40 c41 c42 c43 c44 c46 c47 c48 c49 c50 c51 c52 c53 c54 c55 c56 c57 c58 c59 c60 c61 c62 c63 c64 c65 c66 c67 c68 c69 c70 c71 c72 c73 c74 c75 c76 c77 c78 c79 c80 c81 c82 c83 c84 c85 c86 c87 c88 c89 c90 c91 c92 c93 c94 c95 c96 c97 c98 c99 c100 c101 c102 c103 c104 c105 c106 c107 c108 c109 c110 c111 c112 c113 c114 c115 c116 c117 c118 c119 c120 c121 c122 c123 c124 c125 c126 c127 c128 c129 c130 c131 c132 c133 c134 c135 c136 c137 c138 c139 c140 c141 c142 c143 c144 c145 c146 c147 c148 c149 c150 c151 c152 c153 c154 c155 c156 c157 c158 c159 c160 c161 c162 c163 c164 c165 c166 c167 c168 c169 c170 c171 c172 c173 c174 c175 c176 c177 c178 c179 c180 c181 c182 c183 c184 c185 c186 c187 c188 c189 c190 c191 c192 c193 c194 c195 c196 c197 c198 c199 c200 c201 c202 c203 c204 c205 c206 c207 c208 c209 c210 c211 c212 c213 c214 c215 c216 c217 c218 c219 c220 c221 c222 c223 c224 c225 c226 c227 c228 : Value) (J K' : Act → World → Prop) (Q' : Exit → Act → World → Prop)
    (hJ : ∀ a' w', PlaysR X p c0 c1 (.pointer (some ⟨p, 0, none⟩)) c5 (.pointer (some ⟨qa, 0, none⟩)) (.bool th) c14 c15 c16 c17 c18 c19 c20 c21 c22 c23 a' w' → J a' w') (hK : ∀ a' w', Met J a' w' → K' a' w') :
    Code.wp Try.prog swBody (Exit.then K' Q') ⟨#[c0, c1, c2, .pointer (some ⟨p, 0, none⟩), .slice aw m cw, c5, .pointer (some ⟨qa, 0, none⟩), .bool th, c8, c9, c10, c11, c12, c13, c14, c15, c16, c17, c18, c19, c20, c21, c22, c23, c24, c25, c26, c27, c28, c29, c30, c31, c32, c33, c34, c35, c36, c37, c38, c39, c40, c41, c42, c43, c44, .int .i64 op, c46, c47, c48, c49, c50, c51, c52, c53, c54, c55, c56, c57, c58, c59, c60, c61, c62, c63, c64, c65, c66, c67, c68, c69, c70, c71, c72, c73, c74, c75, c76, c77, c78, c79, c80, c81, c82, c83, c84, c85, c86, c87, c88, c89, c90, c91, c92, c93, c94, c95, c96, c97, c98, c99, c100, c101, c102, c103, c104, c105, c106, c107, c108, c109, c110, c111, c112, c113, c114, c115, c116, c117, c118, c119, c120, c121, c122, c123, c124, c125, c126, c127, c128, c129, c130, c131, c132, c133, c134, c135, c136, c137, c138, c139, c140, c141, c142, c143, c144, c145, c146, c147, c148, c149, c150, c151, c152, c153, c154, c155, c156, c157, c158, c159, c160, c161, c162, c163, c164, c165, c166, c167, c168, c169, c170, c171, c172, c173, c174, c175, c176, c177, c178, c179, c180, c181, c182, c183, c184, c185, c186, c187, c188, c189, c190, c191, c192, c193, c194, c195, c196, c197, c198, c199, c200, c201, c202, c203, c204, c205, c206, c207, c208, c209, c210, c211, c212, c213, c214, c215, c216, c217, c218, c219, c220, c221, c222, c223, c224, c225, c226, c227, c228], []⟩ Y := by
  conv => arg 2; whnf
  obtain ⟨d0, d1, d2⟩ := HQ.out _ (Only.refl _ _)
  cases th with
  | false =>
    have hth : ¬ (0 ≤ ix ∧ ix < m) := of_decide_eq_false HTh.out.symm
    clear HTh
    have HT := Lib.hid (bag_drop_no p g A ix Y HBx.out (by rw [HAl.out]; exact hth))
    go_wp2_with fail
    refine HT.out.mono ?_
    rintro E V ⟨rfl, rfl⟩
    go_wp2_with fail
    refine Met.intro (hJ _ _ ?_)
    unfold PlaysR
    (repeat apply Exists.intro)
    refine ⟨?rel, rfl⟩
    case rel => exact ⟨g, A, m, aw, cw, gw, rfl, by omega, HAl.out, HBx.out, HWx.out⟩
  | true =>
    have hth : 0 ≤ ix ∧ ix < m := of_decide_eq_true HTh.out.symm
    clear HTh
    obtain ⟨k, hk⟩ : ∃ k : Nat, ix = k := ⟨ix.toNat, by omega⟩
    subst hk
    have hkm : k < m := by omega
    have hkm' : (k : Int) < m := by omega
    obtain ⟨⟨v, d⟩, hx⟩ : ∃ x, A[k]? = some x := ⟨_, List.getElem?_eq_getElem (by rw [HAl.out]; exact hkm)⟩
    obtain ⟨bw, rfl, hgw, _, _, _, hcw⟩ := want_cell HWx.out (by omega)
    have HT := Lib.hid (bag_drop p g A k Y HBx.out (by rw [HAl.out]; exact hkm))
    obtain ⟨⟨ab, cb, Rb, hbat⟩, _⟩ := HBx.out
    have hbat := Lib.hid hbat
    go_wp2_with fail
    clear d0 d1 d2
    refine HT.out.mono ?_
    rintro E V ⟨rfl, hBV, hOV⟩
    have HWE := Lib.hid (hbat.out.other hOV HWx.out (by decide) (by decide))
    have HBE := Lib.hid hBV
    have HAC : Hid (∀ Z, Kept V Z → Z.cell? ⟨qa, 1, none⟩ = some (.int .i64 (k : Int))) := fun Z kk => (HQ.out Z (hOV.then kk.only (by simp))).2.1
    clear hBV hOV
    go_upto_region 43 with fail
    have hs1 : ∀ W, (Instr.slice 45 (.slice (some ⟨bw, 0, none⟩) m cw) none (some (.int .i64 (k : Int))) none).run Try.prog W = .ok (.slice (some ⟨bw, 0, none⟩) k cw) W := fun W => run_cut_h elemMs _ _ _ .i64 k _ rfl (by omega) W
    have hs2 : ∀ W, (Instr.slice 45 (.slice (some ⟨bw, 0, none⟩) m cw) (some (.int .i64 ((k : Int) + 1))) none none).run Try.prog W = .ok (.slice (cutA (some ⟨bw, 0, none⟩) cw (k + 1) 9) (m - (k + 1)) (cw - (k + 1))) W := fun W => run_cut_l elemMs (some ⟨bw, 0, none⟩) m cw .i64 (k + 1) _ (by omega) (by omega) W
    have hwr : IntKind.i64.wrap ((k : Int) + 1) = k + 1 := by rw [IntKind.wrap_i64]; omega
    have HS1 := Lib.hid (fun Vq (kk : Kept V Vq) => want_take (P := Try.prog) (tx := 45) Try.underlying45 (kk.only.app HWE.out (by simp)) k hkm)
    have HS2 := Lib.hid (fun Vq (kk : Kept V Vq) => want_drop (P := Try.prog) (tx := 45) Try.underlying45 (kk.only.app HWE.out (by simp)) k hkm)
    obtain ⟨AC, hAC⟩ : ∃ AC, cutA (some ⟨bw, 0, none⟩) cw (k + 1) 9 = AC := ⟨_, rfl⟩
    rw [hAC] at hs2 HS2
    have KD : Kept V V.drew := (Kept.refl _).dr ⟨1, rfl⟩
    have K0 : Kept V ((V.alloc (.cells #[] 33)).drew) := (kept_al _ _).dr ⟨1, rfl⟩
    have hA0 : Hid (((V.alloc (.cells #[] 33)).drew).heap[V.heap.size]? = some (.cells #[] 33 (0, 0))) := heap_alloc_new V (.cells #[] 33)
    clear hAC
    first | (go_region_held3 (fun Z => Z.cell? ⟨qa, 1, none⟩ = some (.int .i64 (k : Int))) (first | exact HAC.out _ KD | exact HAC.out _ K0) (first
      | (refine step_app rfl (.tmp 166) (.tmp 170) 45 45 rfl elemMs _ 0 _ _ rfl (app0_at hA0.out) _ k _ rfl (HS1.out _ K0) (by omega) (by unfold maxLen; omega) ?_; intro a5 c5 g5 w5 hA5 hO5 hG5; rw [Nat.zero_add, List.nil_append] at hA5; rw [Nat.zero_add]; have KE : Kept V w5 := K0.onl hO5 (by intro i hi; simp at hi; omega); have HA5 := Lib.hid hA5; have HG5 : Hid (∀ i ∈ g5.toList, V.heap.size ≤ i) := (by intro i hi; rcases hG5 with rfl | rfl <;> simp at hi <;> omega); clear KD; have KD := KE; clear KE hA5 hO5 hG5)
      | (refine step_app rfl (.tmp 171) (.tmp 176) 45 45 rfl elemMs _ k _ _ rfl HA5.out _ (m - (k + 1)) _ rfl (HS2.out _ KD) (by omega) (by unfold maxLen; omega) ?_; intro a6 c6 g6 w6 hA6 hO6 hG6; have KF : Kept V w6 := KD.onl hO6 (by intro i hi; exact HG5.out i hi); have HA6 := Lib.hid hA6; clear KD; have KD := KF; clear KF hA6 hO6 hG6))) | fail
    all_goals (
      go_wp2_with fail
      refine Met.intro (hJ _ _ ?_)
      unfold PlaysR
      (repeat apply Exists.intro)
      refine ⟨?rel, rfl⟩
      case rel => exact ⟨g, A.eraseIdx k, k + (m - (k + 1)), a6, c6, g6, rfl, by omega, by unfold Hid; rw [List.length_eraseIdx, if_pos (by rw [HAl.out]; exact hkm), HAl.out]; omega, HBE.out.keep KD, by unfold Hid; rw [List.eraseIdx_eq_take_drop_succ, wantV_app]; exact HA6.out⟩)

end Go.Proofs.Ytnnjflljlooifaa
