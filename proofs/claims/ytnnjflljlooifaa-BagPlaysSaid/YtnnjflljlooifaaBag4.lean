/- The bag: Take and Twice. -/
import Derived.Test.YtnnjflljlooifaaBag3
import Derived.Deep.RegionLaw
set_option linter.unusedVariables false
set_option linter.unusedSimpArgs false
namespace Go.Proofs.Ytnnjflljlooifaa
open Go.RowKit
theorem BagW.aside {X w w' : World} {p q : Nat} {g : Option Nat} {A : List (Int × Int)} {cs : Array Value} {t : TypeId} {m : Nat × Nat} (h : BagW X w p g A) (k : Only [q] w w') (hq : w.heap[q]? = some (.cells cs t m)) (hc : ∀ x ∈ cs.toList, ∀ v, x ≠ .int .u8 v) (hX : X.heap.size ≤ q) (hn : q ∉ p :: g.toList) : BagW X w' p g A := by
  obtain ⟨⟨a, c, R, h1⟩, h2, h3, h4, h5, h6⟩ := h
  have hp : p ∉ [q] := by intro hm; simp at hm; exact hn (by simp [hm])
  have hg : ∀ b, g = some b → b ∉ [q] := by intro b hb hm; simp at hm; exact hn (by simp [hb, hm])
  refine ⟨⟨a, c, R, k.heap h1.box hp, k.app h1.app hg, fun i r x e1 e2 => ?_⟩, h2.then k (by intro i hi hm; simp at hm; omega), h3, h4, h5, h6⟩
  obtain ⟨g1, g2⟩ := h1.row i r x e1 e2
  refine ⟨kind_apart k g1 fun b hb => ?_, fun y hy => ⟨Nat.lt_of_lt_of_le (g2 y hy).1 k.size, (g2 y hy).2⟩⟩
  obtain rfl : b = q := by simpa using hb
  exact ⟨cs, t, m, hq, hc⟩
theorem BagW.lts {X w : World} {p : Nat} {g : Option Nat} {A : List (Int × Int)} (h : BagW X w p g A) : ∀ i ∈ p :: g.toList, i < w.heap.size := by
  obtain ⟨⟨a, c, R, h1⟩, _⟩ := h
  intro i hi
  rcases List.mem_cons.1 hi with rfl | hi
  · exact lt_heap h1.box
  · cases g with
    | none => simp at hi
    | some b => obtain rfl : i = b := by simpa using hi
                exact h1.app.lt _ rfl
set_option maxRecDepth 100000 in
set_option maxHeartbeats 4000000 in
theorem bag_take_no {X : World} (p : Nat) (g : Option Nat) (A : List (Int × Int)) (i : Int) (w : World) (hB : BagW X w p g A) (hi : ¬ (0 ≤ i ∧ i < A.length)) :
    Calls Try.prog 10 #[.pointer (some ⟨p, 0, none⟩), .int .i64 i] w fun e w' => e = .returned (.tuple #[zMsg, .bool false]) ∧ Kept w w' := by
  have h0 := heap_alloc_new w (.cells #[.int .i64 0, .int .i64 0, .int .i64 0, .int .i64 0, .int .i64 0, .int .i64 0, .slice none 0 0, .slice none 0 0, .int .i64 0] 33)
  have K1 := (kept_al w (.cells #[.int .i64 0, .int .i64 0, .int .i64 0, .int .i64 0, .int .i64 0, .int .i64 0, .slice none 0 0, .slice none 0 0, .int .i64 0] 33))
  have HS := Lib.hid (bag_see_no p g A i _ (hB.keep K1) hi)
  unfold zMsg at *
  go_enter Try.func10, Try.ntmps10
  go_wp2_with fail
  obtain ⟨q4, hq⟩ : ∃ q, w.heap.size = q := ⟨_, rfl⟩
  rw [hq] at h0 ⊢
  generalize World.alloc w _ = Y at *
  refine HS.out.mono ?_
  rintro E V ⟨rfl, J⟩
  go_upto_region 2 with fail
  have h1 := heap_alloc_new V (.cells #[.int .i64 0, .int .i64 0, .int .i64 0, .int .i64 0, .int .i64 0, .int .i64 0, .slice none 0 0, .slice none 0 0, .int .i64 0] 33)
  have K2 := (kept_al V (.cells #[.int .i64 0, .int .i64 0, .int .i64 0, .int .i64 0, .int .i64 0, .int .i64 0, .slice none 0 0, .slice none 0 0, .int .i64 0] 33))
  have h2 := K2.only.heap (J.only.heap h0 (by simp)) (by simp)
  have KK := (K1.trans J).trans K2
  generalize V.heap.size = q6 at *
  generalize World.alloc V _ = Z at *
  obtain ⟨q0, q1, q2, q3, q4', q5, q6', q7, q8⟩ := nine_cells h1
  obtain ⟨r0, r1, r2, r3, r4, r5, r6, r7, r8⟩ := nine_cells h2
  have z := one_free h2
  clear h0 h1 HS
  have hd := nine_set h2 (.int .i64 0) (.int .i64 0) (.int .i64 0) (.int .i64 0) (.int .i64 0) (.int .i64 0) (.slice none 0 0) (.slice none 0 0) (.int .i64 0)
  obtain ⟨d0, d1, d2, d3, d4, d5, d6, d7, d8⟩ := nine_cells hd
  have KE := KK.onl (only_set9 Z q4 (.int .i64 0) (.int .i64 0) (.int .i64 0) (.int .i64 0) (.int .i64 0) (.int .i64 0) (.slice none 0 0) (.slice none 0 0) (.int .i64 0)) (by intro j hj; simp at hj; omega)
  clear hd h2
  go_region
  all_goals (
    go_wp2
    exact bodyPost_ret (v := .tuple #[.agg #[.int .i64 0, .int .i64 0, .int .i64 0, .int .i64 0, .int .i64 0, .int .i64 0, .slice none 0 0, .slice none 0 0, .int .i64 0], .bool false]) (by simp [results, Try.results10, go_sem, d0, d1, d2, d3, d4, d5, d6, d7, d8]) rfl ⟨rfl, KE.dr ⟨1, rfl⟩⟩)
set_option maxRecDepth 100000 in
set_option maxHeartbeats 4000000 in
theorem bag_take {X : World} (p : Nat) (g : Option Nat) (A : List (Int × Int)) (j : Nat) (n d : Int) (w : World) (hB : BagW X w p g A) (hj : A[j]? = some (n, d)) :
    Calls Try.prog 10 #[.pointer (some ⟨p, 0, none⟩), .int .i64 j] w fun e w' => ∃ la lc ta tc, e = .returned (.tuple #[.agg #[.int .i64 2, .int .i64 (1 - d), .int .i64 d, .int .i64 1, .int .i64 n, .int .i64 0, .slice la 0 lc, .slice ta 0 tc, .int .i64 0], .bool true]) ∧ MsgAt w' la 0 lc ta 0 tc [] [] ∧ BagW X w' p g (A.eraseIdx j) ∧ Only (p :: g.toList) w w' := by
  have hjl : j < A.length := by
    rcases Nat.lt_or_ge j A.length with h' | h'
    · exact h'
    · rw [List.getElem?_eq_none h'] at hj; cases hj
  have h0 := heap_alloc_new w (.cells #[.int .i64 0, .int .i64 0, .int .i64 0, .int .i64 0, .int .i64 0, .int .i64 0, .slice none 0 0, .slice none 0 0, .int .i64 0] 33)
  have K1 := (kept_al w (.cells #[.int .i64 0, .int .i64 0, .int .i64 0, .int .i64 0, .int .i64 0, .int .i64 0, .slice none 0 0, .slice none 0 0, .int .i64 0] 33))
  have hlt := hB.lts
  have HB := Lib.hid hB
  have HS := Lib.hid (bag_see p g A j n d _ (hB.keep K1) hj)
  have HD := Lib.hid (fun V (k : Kept w V) => bag_drop p g A j V (hB.keep k) hjl)
  clear hB
  go_enter Try.func10, Try.ntmps10
  go_wp2_with fail
  obtain ⟨q4, hq⟩ : ∃ q, w.heap.size = q := ⟨_, rfl⟩
  rw [hq] at h0 ⊢
  generalize World.alloc w _ = Y at *
  refine HS.out.mono ?_
  rintro E V ⟨la, lc, ta, tc, rfl, hM, J⟩
  have HM := Lib.hid hM
  clear hM
  go_upto_region 2 with fail
  have h1 := heap_alloc_new V (.cells #[.int .i64 2, .int .i64 (1 - d), .int .i64 d, .int .i64 1, .int .i64 n, .int .i64 0, .slice la 0 lc, .slice ta 0 tc, .int .i64 0] 33)
  have K2 := (kept_al V (.cells #[.int .i64 2, .int .i64 (1 - d), .int .i64 d, .int .i64 1, .int .i64 n, .int .i64 0, .slice la 0 lc, .slice ta 0 tc, .int .i64 0] 33))
  have h2 := K2.only.heap (J.only.heap h0 (by simp)) (by simp)
  have KK := (K1.trans J).trans K2
  have h4V := lt_heap (J.only.heap h0 (by simp))
  have hwY := K1.size
  have hYV := J.size
  have hq4 := lt_heap h0
  obtain ⟨q6, hq6⟩ : ∃ q, V.heap.size = q := ⟨_, rfl⟩
  rw [hq6] at h1 ⊢
  generalize World.alloc V _ = Z at *
  have hX4 : X.heap.size ≤ q4 := by have := HB.out.only.size; omega
  have hS4 : q4 ∉ p :: g.toList := by intro h; have := hlt _ h; omega
  have hS6 : q6 ∉ p :: g.toList := by intro h; have := hlt _ h; omega
  have H5 := Lib.hid (fun W (o : Only (p :: g.toList) Z W) => o.heap h2 hS4)
  have H1 := Lib.hid (fun W (o : Only (p :: g.toList) Z W) => nine_cells (o.heap h1 hS6))
  have H2 := Lib.hid (fun W (o : Only (p :: g.toList) Z W) => nine_cells (o.heap h2 hS4))
  have H3 := Lib.hid (fun W (o : Only (p :: g.toList) Z W) => one_free (o.heap h2 hS4))
  have H4 := Lib.hid (fun W (o : Only (p :: g.toList) Z W) => nine_set (o.heap h2 hS4) (.int .i64 2) (.int .i64 (1 - d)) (.int .i64 d) (.int .i64 1) (.int .i64 n) (.int .i64 0) (.slice la 0 lc) (.slice ta 0 tc) (.int .i64 0))
  obtain ⟨q0, q1, q2, q3, q4', q5, q6', q7, q8⟩ := H1.out _ (Only.refl _ _)
  have KZ : Kept w Z.drew := KK.dr ⟨1, rfl⟩
  clear h0 h1 HS h2 K1 K2 J
  go_region_law (go_simp; go_at_call 14; refine (HD.out _ KZ).mono ?_; rintro E V2 ⟨rfl, hBW, hO⟩; have HBW := Lib.hid hBW; have HO := Lib.hid hO; have oz : Only (p :: g.toList) Z V2 := ((Only.refl _ Z).drew).trans hO; clear q0 q1 q2 q3 q4' q5 q6' q7 q8; obtain ⟨q0, q1, q2, q3, q4', q5, q6', q7, q8⟩ := H1.out _ oz; obtain ⟨r0, r1, r2, r3, r4, r5, r6, r7, r8⟩ := H2.out _ oz; have z := H3.out _ oz; clear hBW hO)
  all_goals (
    obtain ⟨d0, d1, d2, d3, d4, d5, d6, d7, d8⟩ := nine_cells (H4.out _ oz)
    have hz := H5.out _ oz
    have hF := HBW.out.aside (only_set9 V2 q4 (.int .i64 2) (.int .i64 (1 - d)) (.int .i64 d) (.int .i64 1) (.int .i64 n) (.int .i64 0) (.slice la 0 lc) (.slice ta 0 tc) (.int .i64 0)) hz (by intro x hx v h; subst h; simp at hx) hX4 hS4
    have OF : Only (p :: g.toList) w _ := (KK.only.mono (by simp)).then ((oz.mono (T := q4 :: p :: g.toList) (by intro i _ h; exact List.mem_cons_of_mem _ h)).then (only_set9 V2 q4 (.int .i64 2) (.int .i64 (1 - d)) (.int .i64 d) (.int .i64 1) (.int .i64 n) (.int .i64 0) (.slice la 0 lc) (.slice ta 0 tc) (.int .i64 0)) (by intro i _ h; simp at h; simp [h])) (by intro i hi h; rcases List.mem_cons.1 h with h | h; exact absurd h (by omega); exact h)
    go_wp2
    exact bodyPost_ret (v := .tuple #[.agg #[.int .i64 2, .int .i64 (1 - d), .int .i64 d, .int .i64 1, .int .i64 n, .int .i64 0, .slice la 0 lc, .slice ta 0 tc, .int .i64 0], .bool true]) (by simp [results, Try.results10, go_sem, d0, d1, d2, d3, d4, d5, d6, d7, d8]) rfl ⟨la, lc, ta, tc, rfl, msg0_any HM.out, hF, OF⟩)
set_option maxRecDepth 100000 in
set_option maxHeartbeats 4000000 in
theorem bag_twice_no {X : World} (p : Nat) (g : Option Nat) (A : List (Int × Int)) (i : Int) (w : World) (hB : BagW X w p g A) (hi : ¬ (0 ≤ i ∧ i < A.length)) :
    Calls Try.prog 13 #[.pointer (some ⟨p, 0, none⟩), .int .i64 i] w fun e w' => e = .returned (.int .i64 4) ∧ Kept w w' := by
  have HS := Lib.hid (bag_see_no p g A i _ hB hi)
  unfold zMsg at HS
  go_enter Try.func13, Try.ntmps13
  go_wp2_with fail
  refine HS.out.mono ?_
  rintro E V ⟨rfl, J⟩
  go_wp2_with fail
  go_ret
  exact ⟨rfl, J.trans (kept_al _ _)⟩
set_option maxRecDepth 100000 in
set_option maxHeartbeats 4000000 in
theorem bag_twice {X : World} (p : Nat) (g : Option Nat) (A : List (Int × Int)) (j : Nat) (n d : Int) (w : World) (hB : BagW X w p g A) (hj : A[j]? = some (n, d)) :
    Calls Try.prog 13 #[.pointer (some ⟨p, 0, none⟩), .int .i64 j] w fun e w' => e = .returned (.int .i64 (putE (n, d) A)) ∧ ∃ g', BagW X w' p g' (putA (n, d) A) ∧ Only (p :: g.toList) w w' := by
  have HB := Lib.hid hB
  have hd := (hB.ok _ (List.mem_of_getElem? hj)).2
  have HS := Lib.hid (bag_see p g A j n d _ hB hj)
  clear hB
  go_enter Try.func13, Try.ntmps13
  go_wp2_with fail
  refine HS.out.mono ?_
  rintro E V ⟨la, lc, ta, tc, rfl, hM, J⟩
  have K := J.trans (kept_al V (.cells #[.int .i64 2, .int .i64 (1 - d), .int .i64 d, .int .i64 1, .int .i64 n, .int .i64 0, .slice la 0 lc, .slice ta 0 tc, .int .i64 0] 33))
  have h1 := heap_alloc_new V (.cells #[.int .i64 2, .int .i64 (1 - d), .int .i64 d, .int .i64 1, .int .i64 n, .int .i64 0, .slice la 0 lc, .slice ta 0 tc, .int .i64 0] 33)
  obtain ⟨q0, q1, q2, q3, q4, q5, q6, q7, q8⟩ := nine_cells h1
  have HP := Lib.hid (bag_put p g A n d la ta lc tc _ (HB.out.keep K) (msg0_any hM) hd)
  clear h1 hM
  go_wp2_with fail
  refine HP.out.mono ?_
  rintro E V2 ⟨rfl, g', h2, h3⟩
  have h4 : Only (p :: g.toList) w V2 := (K.only.mono (by simp)).trans h3
  clear q0 q1 q2 q3 q4 q5 q6 q7 q8 h3
  go_wp2_with fail
  go_ret
  first | exact ⟨rfl, g', h2, h4⟩ | exact ⟨rfl, ⟨g', h2⟩, h4⟩
end Go.Proofs.Ytnnjflljlooifaa
