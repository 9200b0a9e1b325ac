/- BagPlays: the switch, case 0. -/
import Derived.Test.YtnnjflljlooifaaBagPlaysB
set_option linter.unusedVariables false
set_option linter.unusedSimpArgs false
namespace Go.Proofs.Ytnnjflljlooifaa
open Go.RowKit
set_option maxRecDepth 1000000 in
set_option maxHeartbeats 16000000 in
theorem plays_op0 {X Y : World} {p qa m cw : Nat} {g gw : Option Nat} {A : List (Int × Int)} {aw : Option Addr} {th : Bool} {op ix n : Int} (HBx : Hid (BagW X Y p g A)) (HAl : Hid (A.length = m)) (HWx : Hid (App Y 33 9 (.slice aw m cw) m gw (wantV A))) (hm : m ≤ 64) (hwc : m ≤ cw) (hwm : cw ≤ maxLen) (i0 : -9223372036854775808 ≤ ix) (i1 : ix ≤ 9223372036854775807) (n0 : -9223372036854775808 ≤ n) (n1 : n ≤ 9223372036854775807)
    (HQ : Hid (∀ V, Only (p :: g.toList) Y V → V.cell? ⟨qa, 0, none⟩ = some (.int .i64 op) ∧ V.cell? ⟨qa, 1, none⟩ = some (.int .i64 ix) ∧ V.cell? ⟨qa, 2, none⟩ = some (.int .i64 n))) (HTh : Hid (th = decide (0 ≤ ix ∧ ix < m))) (b0 : (op == 0) = true) (c0 c1 c2 c5 c8 c9 c10 c11 c12 c13 c14 c15 c16 c17 c18 c19 c20 c21 c22 c23 c24 c25 c26 c27 c28 c29 c30 c31 c32 c33 c34 c35 c36 c37 c38 c39 c40 c41 c42 c43 c44 c46 c47 c48 c49 c50 c51 c52 c53 c54 c55 c56 c57 c58 c59 c60 c61 c62 c63 c64 c65 c66 c67 c68 c69 c70 c71 c72 c73 c74 c75 c76 c77 c78 c79 c80 c81 c82 c83 c84 c85 c86 c87 c88 c89 c90 c91 c92 c93 c94 c95 c96 c97 c98 c99 c100 c101 c102 c103 c104 c105 c106 c107 c108 c109 c110 c111 c112 c113 c114 c115 c116 c117 c118 c119 c120 c121 c122 c123 c124 c125 c126 c127 c128 c129 c130 c131 c132 c133 c134 c135 c136 c137 c138 c139 c140 c141 c142 c143 c144 c145 c146 c147 c148 c149 c150 c151 c152 c153 c154 c155 c156 c157 c158 c159 c160 c161 c162 c163 c164 c165 c166 c167 c168 c169 c170 c171 c172 c173 c174 c175 c176 c177 c178 c179 c180 c181 c182 c183 c184 c185 c186 c187 c188 c189 c190 c191 c192 c193 c194 c195 c196 c197 c198 c199 c200 c201 c202 c203 c204 c205 c206 c207 c208 c209 c210 c211 c212 c213 c214 c215 c216 c217 c218 c219 c220 c221 c222 c223 c224 c225 c226 c227 c228 : Value) (J K' : Act → World → Prop) (Q' : Exit → Act → World → Prop)
    (hJ : ∀ a' w', PlaysR X p c0 c1 (.pointer (some ⟨p, 0, none⟩)) c5 (.pointer (some ⟨qa, 0, none⟩)) (.bool th) c14 c15 c16 c17 c18 c19 c20 c21 c22 c23 a' w' → J a' w') (hK : ∀ a' w', Met J a' w' → K' a' w') :
    Code.wp Try.prog swBody (Exit.then K' Q') ⟨#[c0, c1, c2, .pointer (some ⟨p, 0, none⟩), .slice aw m cw, c5, .pointer (some ⟨qa, 0, none⟩), .bool th, c8, c9, c10, c11, c12, c13, c14, c15, c16, c17, c18, c19, c20, c21, c22, c23, c24, c25, c26, c27, c28, c29, c30, c31, c32, c33, c34, c35, c36, c37, c38, c39, c40, c41, c42, c43, c44, .int .i64 op, c46, c47, c48, c49, c50, c51, c52, c53, c54, c55, c56, c57, c58, c59, c60, c61, c62, c63, c64, c65, c66, c67, c68, c69, c70, c71, c72, c73, c74, c75, c76, c77, c78, c79, c80, c81, c82, c83, c84, c85, c86, c87, c88, c89, c90, c91, c92, c93, c94, c95, c96, c97, c98, c99, c100, c101, c102, c103, c104, c105, c106, c107, c108, c109, c110, c111, c112, c113, c114, c115, c116, c117, c118, c119, c120, c121, c122, c123, c124, c125, c126, c127, c128, c129, c130, c131, c132, c133, c134, c135, c136, c137, c138, c139, c140, c141, c142, c143, c144, c145, c146, c147, c148, c149, c150, c151, c152, c153, c154, c155, c156, c157, c158, c159, c160, c161, c162, c163, c164, c165, c166, c167, c168, c169, c170, c171, c172, c173, c174, c175, c176, c177, c178, c179, c180, c181, c182, c183, c184, c185, c186, c187, c188, c189, c190, c191, c192, c193, c194, c195, c196, c197, c198, c199, c200, c201, c202, c203, c204, c205, c206, c207, c208, c209, c210, c211, c212, c213, c214, c215, c216, c217, c218, c219, c220, c221, c222, c223, c224, c225, c226, c227, c228], []⟩ Y := by
  conv => arg 2; whnf
  obtain ⟨d0, d1, d2⟩ := HQ.out _ (Only.refl _ _)
  have HAk := Lib.hid (law_ack n (n % 2) Y (by omega))
  have hand := and_bit n n0 n1
  have hm2 : n % 2 = 0 ∨ n % 2 = 1 := by omega
  obtain ⟨d, hd⟩ : ∃ d, n % 2 = d := ⟨_, rfl⟩
  rw [hd] at HAk hand hm2
  go_wp2_with fail
  refine HAk.out.mono ?_
  rintro E V ⟨rfl, J⟩
  have hB1 := (HBx.out.keep J).keep (kept_al V (.cells #[.int .i64 2, .int .i64 (1 - d), .int .i64 d, .int .i64 1, .int .i64 n, .int .i64 0, .slice none 0 0, .slice none 0 0, .int .i64 0] 33))
  have h8 := heap_alloc_new V (.cells #[.int .i64 2, .int .i64 (1 - d), .int .i64 d, .int .i64 1, .int .i64 n, .int .i64 0, .slice none 0 0, .slice none 0 0, .int .i64 0] 33)
  have K8 := J.trans (kept_al V (.cells #[.int .i64 2, .int .i64 (1 - d), .int .i64 d, .int .i64 1, .int .i64 n, .int .i64 0, .slice none 0 0, .slice none 0 0, .int .i64 0] 33))
  go_upto_region 25 with fail
  obtain ⟨q8, hq8⟩ : ∃ q, V.heap.size = q := ⟨_, rfl⟩
  have hqX8 : q8 ∉ p :: g.toList := fun hmm => by have := (HBx.out.keep J).lts _ hmm; omega
  rw [hq8] at h8 ⊢
  generalize World.alloc V _ = Y8 at *
  have HC8 : Hid (∀ Z, Only (p :: g.toList) Y8 Z → Z.cell? ⟨q8, 0, none⟩ = some (.int .i64 2) ∧ Z.cell? ⟨q8, 1, none⟩ = some (.int .i64 (1 - d)) ∧ Z.cell? ⟨q8, 2, none⟩ = some (.int .i64 d) ∧ Z.cell? ⟨q8, 3, none⟩ = some (.int .i64 1) ∧ Z.cell? ⟨q8, 4, none⟩ = some (.int .i64 n) ∧ Z.cell? ⟨q8, 5, none⟩ = some (.int .i64 0) ∧ Z.cell? ⟨q8, 6, none⟩ = some (.slice none 0 0) ∧ Z.cell? ⟨q8, 7, none⟩ = some (.slice none 0 0) ∧ Z.cell? ⟨q8, 8, none⟩ = some (.int .i64 0)) := fun Z k => nine_cells (k.heap h8 hqX8)
  have HQ8 : Hid (∀ Z, Only (p :: g.toList) Y8 Z → Z.cell? ⟨qa, 0, none⟩ = some (.int .i64 op) ∧ Z.cell? ⟨qa, 1, none⟩ = some (.int .i64 ix) ∧ Z.cell? ⟨qa, 2, none⟩ = some (.int .i64 n)) := fun Z k => HQ.out Z ((K8.only.mono (by simp)).trans k)
  have HP := Lib.hid (bag_put p g A n d none none 0 0 Y8 hB1 (msgAt_none _) hm2)
  have HW8 := Lib.hid (K8.only.app HWx.out (by simp))
  clear h8 hq8 J HAk d0 d1 d2
  obtain ⟨x0, x1, x2, x3, x4, x5, x6, x7, x8⟩ := HC8.out _ (Only.refl _ _)
  go_wp2_with fail
  refine HP.out.mono ?_
  rintro E YA ⟨rfl, g2, hBA, hOA⟩
  clear x0 x1 x2 x3 x4 x5 x6 x7 x8
  obtain ⟨⟨ab, cb, Rb, hbat⟩, _⟩ := hB1
  have hWA := hbat.other hOA HW8.out (by decide) (by decide)
  have HWA := Lib.hid hWA
  have HWk : Hid (∀ Z, Kept YA Z → App Z 33 9 (.slice aw m cw) m gw (wantV A)) := fun Z k => k.only.app hWA (by simp)
  have HBA := Lib.hid hBA
  have HCA : Hid (∀ Z, Kept YA Z → Z.cell? ⟨q8, 0, none⟩ = some (.int .i64 2) ∧ Z.cell? ⟨q8, 1, none⟩ = some (.int .i64 (1 - d)) ∧ Z.cell? ⟨q8, 2, none⟩ = some (.int .i64 d) ∧ Z.cell? ⟨q8, 3, none⟩ = some (.int .i64 1) ∧ Z.cell? ⟨q8, 4, none⟩ = some (.int .i64 n) ∧ Z.cell? ⟨q8, 5, none⟩ = some (.int .i64 0) ∧ Z.cell? ⟨q8, 6, none⟩ = some (.slice none 0 0) ∧ Z.cell? ⟨q8, 7, none⟩ = some (.slice none 0 0) ∧ Z.cell? ⟨q8, 8, none⟩ = some (.int .i64 0)) := fun Z k => HC8.out Z (hOA.then k.only (by simp))
  obtain ⟨d0, d1, d2⟩ := HQ8.out _ hOA
  clear hbat hWA hBA hOA
  by_cases hg : ackOk (n, d) = true
  · have hg1 : 0 ≤ n ∧ n ≤ 17592186044415 := of_decide_eq_true hg
    obtain ⟨hn0, hn1⟩ := hg1
    by_cases hroom : m < 64
    · have hroom' : (m : Int) < 64 := by omega
      have hE : putE (n, d) A = 0 := by unfold putE; rw [if_neg (by rw [hg]; decide), if_neg (by rw [HAl.out]; omega)]
      have hA2 : putA (n, d) A = A ++ [(n, d)] := if_pos hE
      rw [hE]
      have HBA2 : Hid (BagW X YA p g2 (A ++ [(n, d)])) := by rw [← hA2]; exact HBA.out
      clear hE hA2 HBA
      go_upto_region 28 with fail
      have HSr := Lib.hid (fun V (k : Kept YA V) => want_src (P := Try.prog) (tx := 45) Try.underlying45 (HWk.out V k))
      have KD : Kept YA YA.drew := (Kept.refl _).dr ⟨1, rfl⟩
      have K0 : Kept YA ((YA.alloc (.cells #[] 33)).drew) := (kept_al _ _).dr ⟨1, rfl⟩
      have K1 : Kept YA ((YA.alloc (.cells #[.int .i64 2, .int .i64 (1 - d), .int .i64 d, .int .i64 1, .int .i64 n, .int .i64 0, .slice none 0 0, .slice none 0 0, .int .i64 0] 33)).drew) := (kept_al _ _).dr ⟨1, rfl⟩
      have K01 : Kept YA (((YA.alloc (.cells #[] 33)).alloc (.cells #[.int .i64 2, .int .i64 (1 - d), .int .i64 d, .int .i64 1, .int .i64 n, .int .i64 0, .slice none 0 0, .slice none 0 0, .int .i64 0] 33)).drew) := ((kept_al _ _).trans (kept_al _ _)).dr ⟨1, rfl⟩
      have K10 : Kept YA (((YA.alloc (.cells #[.int .i64 2, .int .i64 (1 - d), .int .i64 d, .int .i64 1, .int .i64 n, .int .i64 0, .slice none 0 0, .slice none 0 0, .int .i64 0] 33)).alloc (.cells #[] 33)).drew) := ((kept_al _ _).trans (kept_al _ _)).dr ⟨1, rfl⟩
      have hA0 : Hid (((YA.alloc (.cells #[] 33)).drew).heap[YA.heap.size]? = some (.cells #[] 33 (0, 0))) := heap_alloc_new YA (.cells #[] 33)
      have hA01 : Hid ((((YA.alloc (.cells #[] 33)).alloc (.cells #[.int .i64 2, .int .i64 (1 - d), .int .i64 d, .int .i64 1, .int .i64 n, .int .i64 0, .slice none 0 0, .slice none 0 0, .int .i64 0] 33)).drew).heap[YA.heap.size]? = some (.cells #[] 33 (0, 0))) := heap_keep (heap_alloc_new YA (.cells #[] 33)) (.cells #[.int .i64 2, .int .i64 (1 - d), .int .i64 d, .int .i64 1, .int .i64 n, .int .i64 0, .slice none 0 0, .slice none 0 0, .int .i64 0] 33)
      have hA10 : Hid ((((YA.alloc (.cells #[.int .i64 2, .int .i64 (1 - d), .int .i64 d, .int .i64 1, .int .i64 n, .int .i64 0, .slice none 0 0, .slice none 0 0, .int .i64 0] 33)).alloc (.cells #[] 33)).drew).heap[YA.heap.size + 1]? = some (.cells #[] 33 (0, 0))) := two_new' YA (.cells #[.int .i64 2, .int .i64 (1 - d), .int .i64 d, .int .i64 1, .int .i64 n, .int .i64 0, .slice none 0 0, .slice none 0 0, .int .i64 0] 33) (.cells #[] 33)
      have hB01 : Hid ((((YA.alloc (.cells #[] 33)).alloc (.cells #[.int .i64 2, .int .i64 (1 - d), .int .i64 d, .int .i64 1, .int .i64 n, .int .i64 0, .slice none 0 0, .slice none 0 0, .int .i64 0] 33)).drew).heap[YA.heap.size + 1]? = some (.cells #[.int .i64 2, .int .i64 (1 - d), .int .i64 d, .int .i64 1, .int .i64 n, .int .i64 0, .slice none 0 0, .slice none 0 0, .int .i64 0] 33 (0, 0))) := two_new' YA (.cells #[] 33) (.cells #[.int .i64 2, .int .i64 (1 - d), .int .i64 d, .int .i64 1, .int .i64 n, .int .i64 0, .slice none 0 0, .slice none 0 0, .int .i64 0] 33)
      have hB10 : Hid ((((YA.alloc (.cells #[.int .i64 2, .int .i64 (1 - d), .int .i64 d, .int .i64 1, .int .i64 n, .int .i64 0, .slice none 0 0, .slice none 0 0, .int .i64 0] 33)).alloc (.cells #[] 33)).drew).heap[YA.heap.size]? = some (.cells #[.int .i64 2, .int .i64 (1 - d), .int .i64 d, .int .i64 1, .int .i64 n, .int .i64 0, .slice none 0 0, .slice none 0 0, .int .i64 0] 33 (0, 0))) := heap_keep (heap_alloc_new YA (.cells #[.int .i64 2, .int .i64 (1 - d), .int .i64 d, .int .i64 1, .int .i64 n, .int .i64 0, .slice none 0 0, .slice none 0 0, .int .i64 0] 33)) (.cells #[] 33)
      first | (go_region_held3 (fun Z => Z.cell? ⟨q8, 0, none⟩ = some (.int .i64 2) ∧ Z.cell? ⟨q8, 1, none⟩ = some (.int .i64 (1 - d)) ∧ Z.cell? ⟨q8, 2, none⟩ = some (.int .i64 d) ∧ Z.cell? ⟨q8, 3, none⟩ = some (.int .i64 1) ∧ Z.cell? ⟨q8, 4, none⟩ = some (.int .i64 n) ∧ Z.cell? ⟨q8, 5, none⟩ = some (.int .i64 0) ∧ Z.cell? ⟨q8, 6, none⟩ = some (.slice none 0 0) ∧ Z.cell? ⟨q8, 7, none⟩ = some (.slice none 0 0) ∧ Z.cell? ⟨q8, 8, none⟩ = some (.int .i64 0)) (first | exact HCA.out _ KD | exact HCA.out _ K0 | exact HCA.out _ K1 | exact HCA.out _ K01 | exact HCA.out _ K10 | exact HCA.out _ (KD.trans (kept_al _ _))) (first
        | (refine step_app rfl (.tmp 98) (.tmp 99) 45 45 rfl elemMs _ 0 _ _ rfl (app0_at hA0.out) _ m _ rfl (HSr.out _ K0) (by omega) (by unfold maxLen; omega) ?_; intro a5 c5 g5 w5 hA5 hO5 hG5; rw [Nat.zero_add, List.nil_append] at hA5; rw [Nat.zero_add]; have KE : Kept YA w5 := K0.onl hO5 (by intro i hi; simp at hi; omega); have HA5 := Lib.hid hA5; have HG5 : Hid (∀ i ∈ g5.toList, YA.heap.size ≤ i) := (by intro i hi; rcases hG5 with rfl | rfl <;> simp at hi <;> omega); clear KD; have KD := KE; clear KE hA5 hO5 hG5)
        | (refine step_app rfl (.tmp 98) (.tmp 99) 45 45 rfl elemMs _ 0 _ _ rfl (app0_at hA01.out) _ m _ rfl (HSr.out _ K01) (by omega) (by unfold maxLen; omega) ?_; intro a5 c5 g5 w5 hA5 hO5 hG5; rw [Nat.zero_add, List.nil_append] at hA5; rw [Nat.zero_add]; have KE : Kept YA w5 := K01.onl hO5 (by intro i hi; simp at hi; omega); have HB1 := Lib.hid (hO5.heap hB01.out (by simp)); have HA5 := Lib.hid hA5; have HG5 : Hid (∀ i ∈ g5.toList, YA.heap.size ≤ i) := (by intro i hi; rcases hG5 with rfl | rfl <;> simp at hi <;> omega); clear KD; have KD := KE; clear KE hA5 hO5 hG5)
        | (refine step_app rfl (.tmp 98) (.tmp 99) 45 45 rfl elemMs _ 0 _ _ rfl (app0_at hA10.out) _ m _ rfl (HSr.out _ K10) (by omega) (by unfold maxLen; omega) ?_; intro a5 c5 g5 w5 hA5 hO5 hG5; rw [Nat.zero_add, List.nil_append] at hA5; rw [Nat.zero_add]; have KE : Kept YA w5 := K10.onl hO5 (by intro i hi; simp at hi; omega); have HB1 := Lib.hid (hO5.heap hB10.out (by simp)); have HA5 := Lib.hid hA5; have HG5 : Hid (∀ i ∈ g5.toList, YA.heap.size ≤ i) := (by intro i hi; rcases hG5 with rfl | rfl <;> simp at hi <;> omega); clear KD; have KD := KE; clear KE hA5 hO5 hG5)
        | (refine step_app rfl (.tmp 100) (.tmp 102) 45 45 rfl elemMs _ m _ _ rfl HA5.out _ 1 _ rfl (src_block Try.underlying45 HB1.out 1 1 rfl (by simp [Value.oneCell'])) (by omega) (by unfold maxLen; omega) ?_; intro a6 c6 g6 w6 hA6 hO6 hG6; have KF : Kept YA w6 := (by first | exact KD.onl hO6 (by intro i hi; have := HG5.out i hi; omega) | exact (KD.trans (kept_al _ _)).onl hO6 (by intro i hi; have := HG5.out i hi; omega)); have HA6 := Lib.hid hA6; clear KD; have KD := KF; clear KF hA6 hO6 hG6)
        | (refine step_app rfl (.tmp 100) (.tmp 102) 45 45 rfl elemMs _ m _ _ rfl ((kept_al _ _).only.app HA5.out (by simp)) _ 1 _ rfl (src_block Try.underlying45 (heap_alloc_new _ _) 1 1 rfl (by simp [Value.oneCell'])) (by omega) (by unfold maxLen; omega) ?_; intro a6 c6 g6 w6 hA6 hO6 hG6; have KF : Kept YA w6 := (by first | exact KD.onl hO6 (by intro i hi; have := HG5.out i hi; omega) | exact (KD.trans (kept_al _ _)).onl hO6 (by intro i hi; have := HG5.out i hi; omega)); have HA6 := Lib.hid hA6; clear KD; have KD := KF; clear KF hA6 hO6 hG6))) | fail
      all_goals (
        go_wp2_with fail
        refine Met.intro (hJ _ _ ?_)
        unfold PlaysR
        (repeat apply Exists.intro)
        refine ⟨?rel, rfl⟩
        case rel => exact ⟨g2, A ++ [(n, d)], m + 1, a6, c6, g6, rfl, by omega, by unfold Hid; rw [List.length_append, HAl.out]; rfl, HBA2.out.keep KD, by unfold Hid; rw [wantV_app]; exact HA6.out⟩)
    · have hroom' : ¬ (m : Int) < 64 := by omega
      have hE : putE (n, d) A = 6 := by unfold putE; rw [if_neg (by rw [hg]; decide), if_pos (by rw [HAl.out]; omega)]
      have hA2 : putA (n, d) A = A := if_neg (by rw [hE]; decide)
      rw [hE]
      have HBA2 : Hid (BagW X YA p g2 A) := by rw [← hA2]; exact HBA.out
      clear hE hA2 HBA
      go_wp2_with fail
      refine Met.intro (hJ _ _ ?_)
      unfold PlaysR
      (repeat apply Exists.intro)
      refine ⟨?rel, rfl⟩
      case rel => exact ⟨g2, A, m, aw, cw, gw, rfl, by omega, HAl.out, HBA2.out, HWA.out⟩
  · have hE : putE (n, d) A = 1 := if_pos (by simpa using hg)
    have hA2 : putA (n, d) A = A := if_neg (by rw [hE]; decide)
    rw [hE]
    have HBA2 : Hid (BagW X YA p g2 A) := by rw [← hA2]; exact HBA.out
    have hg1 : ¬ (0 ≤ n ∧ n ≤ 17592186044415) := fun h => hg (decide_eq_true h)
    clear hE hA2 HBA
    by_cases hn0 : 0 ≤ n
    · have hn1 : ¬ n ≤ 17592186044415 := fun h => hg1 ⟨hn0, h⟩
      go_wp2_with fail
      refine Met.intro (hJ _ _ ?_)
      unfold PlaysR
      (repeat apply Exists.intro)
      refine ⟨?rel, rfl⟩
      case rel => exact ⟨g2, A, m, aw, cw, gw, rfl, by omega, HAl.out, HBA2.out, HWA.out⟩
    · go_wp2_with fail
      refine Met.intro (hJ _ _ ?_)
      unfold PlaysR
      (repeat apply Exists.intro)
      refine ⟨?rel, rfl⟩
      case rel => exact ⟨g2, A, m, aw, cw, gw, rfl, by omega, HAl.out, HBA2.out, HWA.out⟩

end Go.Proofs.Ytnnjflljlooifaa
