/- The bag: what the document tells of twice; two acks compared. -/
import Derived.Test.YtnnjflljlooifaaBag5
set_option linter.unusedVariables false
set_option linter.unusedSimpArgs false
namespace Go.Proofs.Ytnnjflljlooifaa
open Go.RowKit
theorem msgAt_none (V : World) : MsgAt V none 0 0 none 0 0 [] [] := ⟨[], ⟨rfl, Nat.le_refl _, by unfold maxLen; omega, fun i r hi => by cases hi⟩, ⟨rfl, fun i r l h1 h2 => by cases h1⟩, sl_nil _ _⟩
theorem same_ack {n d n' d' : Int} {la ta la' ta' : Option Addr} {lc tc lc' tc' : Nat} {V : World} (h : MsgAt V la 0 lc ta 0 tc [] []) (h' : MsgAt V la' 0 lc' ta' 0 tc' [] []) :
    Calls Try.prog 11 #[.agg #[.int .i64 2, .int .i64 (1 - d), .int .i64 d, .int .i64 1, .int .i64 n, .int .i64 0, .slice la 0 lc, .slice ta 0 tc, .int .i64 0], .agg #[.int .i64 2, .int .i64 (1 - d'), .int .i64 d', .int .i64 1, .int .i64 n', .int .i64 0, .slice la' 0 lc', .slice ta' 0 tc', .int .i64 0]] V fun E w' => E = .returned (.bool (decide (n = n' ∧ d = d'))) ∧ Kept V w' := by
  have hh := cSame (k := 2) (f := 1 - d) (t := d) (e := 1) (o := n) (p := 0) (te := 0) (k' := 2) (f' := 1 - d') (t' := d') (e' := 1) (o' := n') (p' := 0) (te' := 0) h h' (by simp) (by simp)
  have e0 : decide ((2 : Int) = 2 ∧ 1 - d = 1 - d' ∧ d = d' ∧ (1 : Int) = 1 ∧ n = n' ∧ (0 : Int) = 0 ∧ (0 : Int) = 0 ∧ ([] : List Int) = [] ∧ ([] : List (Int × List Int)) = []) = decide (n = n' ∧ d = d') := decide_eq_decide.2 ⟨fun ⟨_, _, h1, _, h2, _⟩ => ⟨h2, h1⟩, fun ⟨h1, h2⟩ => ⟨rfl, by rw [h2], h2, rfl, h1, rfl, rfl, rfl, rfl⟩⟩
  rwa [e0] at hh
set_option maxRecDepth 100000 in
set_option maxHeartbeats 4000000 in
theorem awake24 (w : World) : Calls Try.prog 6 #[] w fun e w' => e = .returned (.bool true) ∧ Kept w w' := by
  go_enter Try.func6, Try.ntmps6
  go_wp2_with fail
  refine (bag_new _).mono ?_
  rintro E X ⟨rfl, hB, K⟩
  obtain ⟨p, hp⟩ : ∃ p, w.heap.size = p := ⟨_, rfl⟩
  rw [hp] at hB ⊢
  go_wp2_with fail
  refine (law_ack 3 0 _ (.inl rfl)).mono ?_
  rintro E V1 ⟨rfl, J⟩
  have hB1 := hB.keep J
  go_wp2_with fail
  refine (bag_put p none [] 3 0 none none 0 0 _ hB1 (msgAt_none _) (.inl rfl)).mono ?_
  rintro E V2 ⟨rfl, g', hB2, hO2⟩
  rw [show putE (3, 0) [] = 0 by decide +kernel]
  rw [show putA (3, 0) [] = [(3, 0)] by decide +kernel] at hB2
  go_wp2_with fail
  refine (bag_twice p g' [(3, 0)] 0 3 0 _ hB2 rfl).mono ?_
  rintro E V3 ⟨rfl, g2, hB3, hO3⟩
  rw [show putE (3, 0) [(3, 0)] = 0 by decide +kernel]
  rw [show putA (3, 0) [(3, 0)] = [(3, 0), (3, 0)] by decide +kernel] at hB3
  go_wp2_with fail
  refine (bag_see p g2 _ 1 3 0 _ hB3 rfl).mono ?_
  rintro E V4 ⟨la, lc, ta, tc, rfl, hM, J4⟩
  have hB4 := hB3.keep J4
  go_upto_region 6 with fail
  have h1 := heap_alloc_new V4 (.cells #[.int .i64 2, .int .i64 1, .int .i64 0, .int .i64 1, .int .i64 3, .int .i64 0, .slice la 0 lc, .slice ta 0 tc, .int .i64 0] 33)
  have hB5 := hB4.keep (kept_al V4 (.cells #[.int .i64 2, .int .i64 1, .int .i64 0, .int .i64 1, .int .i64 3, .int .i64 0, .slice la 0 lc, .slice ta 0 tc, .int .i64 0] 33))
  have HM := Lib.hid hM
  have HB := Lib.hid hB5
  have HK := Lib.hid (hB5.kept K (by omega))
  clear hB hB1 hB2 hB3 hB4 hB5 hO2 hO3 hM J J4
  obtain ⟨q, hq⟩ : ∃ q, V4.heap.size = q := ⟨_, rfl⟩
  rw [hq] at h1 ⊢
  generalize World.alloc V4 _ = Y at *
  have HC : Hid (∀ Z, Kept Y Z → Z.cell? ⟨q, 0, none⟩ = some (.int .i64 2) ∧ Z.cell? ⟨q, 1, none⟩ = some (.int .i64 1) ∧ Z.cell? ⟨q, 2, none⟩ = some (.int .i64 0) ∧ Z.cell? ⟨q, 3, none⟩ = some (.int .i64 1) ∧ Z.cell? ⟨q, 4, none⟩ = some (.int .i64 3) ∧ Z.cell? ⟨q, 5, none⟩ = some (.int .i64 0) ∧ Z.cell? ⟨q, 6, none⟩ = some (.slice la 0 lc) ∧ Z.cell? ⟨q, 7, none⟩ = some (.slice ta 0 tc) ∧ Z.cell? ⟨q, 8, none⟩ = some (.int .i64 0)) := fun Z k => nine_cells (k.only.heap h1 (by simp))
  have HL := Lib.hid (fun V (k : Kept Y V) => bag_len p g2 _ V (HB.out.keep k))
  have HAk := Lib.hid (fun V => law_ack 3 0 V (.inl rfl))
  have HSm := Lib.hid (fun V => same_ack (n := 3) (d := 0) (n' := 3) (d' := 0) (V := V) (msg0_any HM.out) (msgAt_none V))
  rw [show (1 : Int) - 0 = 1 from rfl] at HAk HSm
  rw [show decide ((3 : Int) = 3 ∧ (0 : Int) = 0) = true by decide] at HSm
  simp only [List.length_cons, List.length_nil] at HL
  clear h1 hq
  have KD : Kept Y Y.drew := (Kept.refl _).dr ⟨1, rfl⟩
  first | (go_region_held3 (fun Z => Z.cell? ⟨q, 0, none⟩ = some (.int .i64 2) ∧ Z.cell? ⟨q, 1, none⟩ = some (.int .i64 1) ∧ Z.cell? ⟨q, 2, none⟩ = some (.int .i64 0) ∧ Z.cell? ⟨q, 3, none⟩ = some (.int .i64 1) ∧ Z.cell? ⟨q, 4, none⟩ = some (.int .i64 3) ∧ Z.cell? ⟨q, 5, none⟩ = some (.int .i64 0) ∧ Z.cell? ⟨q, 6, none⟩ = some (.slice la 0 lc) ∧ Z.cell? ⟨q, 7, none⟩ = some (.slice ta 0 tc) ∧ Z.cell? ⟨q, 8, none⟩ = some (.int .i64 0)) (exact HC.out _ KD) (first
    | (go_at_call 12; refine (HL.out _ KD).mono ?_; rintro E V5 ⟨rfl, rfl⟩)
    | (go_at_call 9; refine (HAk.out _).mono ?_; rintro E V6 ⟨rfl, J⟩; replace KD := KD.trans J; clear J)
    | (go_at_call 11; refine (HSm.out _).mono ?_; rintro E V7 ⟨rfl, J⟩; replace KD := KD.trans J; clear J))) | fail
  all_goals (
    go_wp2
    exact bodyPost_ret (v := .bool true) (by simp [results, Try.results6, go_sem]) rfl ⟨rfl, HK.out.trans KD⟩)
end Go.Proofs.Ytnnjflljlooifaa
