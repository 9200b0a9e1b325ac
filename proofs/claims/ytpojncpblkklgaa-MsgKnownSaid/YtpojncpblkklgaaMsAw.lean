/- The law's own message. -/
import Derived.Test.YtpojncpblkklgaaMsGet
import Derived.Test.YtpojncpblkklgaaMsSame
import Derived.Deep.RegionHeld3
set_option linter.unusedVariables false
set_option linter.unusedSimpArgs false
namespace Go.Proofs.Ytpojncpblkklgaa
open Go.RowKit
theorem law_at (e o s : Int) (w : World) (e0 : 0 ≤ e) (e1 : e < 524288) (o0 : 0 ≤ o) (o1 : o ≤ 17592186044415) (hs : e * 17592186044416 + o = s) :
    Calls Try.prog 9 #[.int .i64 e, .int .i64 o] w fun E w' => E = .returned (.int .u64 s) ∧ w = w' := by
  subst hs
  have HP := Lib.hid (stamp_pack e o w e0 e1 o0 o1)
  go_enter Try.func9, Try.ntmps9
  go_wp2_with fail
  refine HP.out.mono ?_
  rintro E V ⟨rfl, rfl⟩
  go_wp2_with fail
  exact bodyPost_ret (v := .int .u64 (e * 17592186044416 + o)) (by simp [results, Try.results9, go_sem]) rfl ⟨rfl, rfl⟩
def someL : List (Int × List Int) := [(35184372088837, [120]), (52776558133254, [])]
set_option maxRecDepth 100000 in
set_option maxHeartbeats 2000000 in
theorem law_some (w : World) :
    Calls Try.prog 6 #[] w fun E w' => ∃ la lc R, E = .returned (.agg #[.int .i64 1, .int .i64 0, .int .i64 1, .int .i64 3, .int .i64 5, .int .i64 2, .slice la 2 lc, .slice none 0 0, .int .i64 0]) ∧ SlQ w' la 2 lc R ∧ BytesAt w' R someL ∧ Kept w w' := by
  have kc := fun (W : World) (C : Array Value) (n c : Nat) => Lib.run_convert_bytes_const (P := Try.prog) W 32 5 C n c Try.underlying32 Try.underlying5
  have h0 := heap_alloc_new w (.cells #[.int .i64 0, .int .i64 0, .int .i64 0, .int .i64 0, .int .i64 0, .int .i64 0, .slice none 0 0, .slice none 0 0, .int .i64 0] 29)
  obtain ⟨q0, q1, q2, q3, q4, q5, q6, q7, q8⟩ := nine_cells h0
  have z0 := one_free h0
  go_enter Try.func6, Try.ntmps6
  go_upto_region 1 with fail
  have hs := (show (w.alloc (.cells #[.int .i64 0, .int .i64 0, .int .i64 0, .int .i64 0, .int .i64 0, .int .i64 0, .slice none 0 0, .slice none 0 0, .int .i64 0] 29)).heap.size = w.heap.size + 1 by simp)
  have K0 := kept_al w (.cells #[.int .i64 0, .int .i64 0, .int .i64 0, .int .i64 0, .int .i64 0, .int .i64 0, .slice none 0 0, .slice none 0 0, .int .i64 0] 29)
  generalize World.alloc w _ = X at *
  have HZ := Lib.hid hs
  clear hs
  have A1 := fun V => law_at 2 5 35184372088837 V (by omega) (by omega) (by omega) (by omega) (by omega)
  have A2 := fun V => law_at 3 6 52776558133254 V (by omega) (by omega) (by omega) (by omega) (by omega)
  clear q0 q1 q2 q3 q4 q5 q6 q7 q8 z0
  have hY := heap_keep (heap_keep h0 (.cells #[.int .u8 120] 5 (1, 2))) (.cells #[.int .u64 35184372088837, .slice (some ⟨X.heap.size, 0, none⟩) 1 1, .int .u64 52776558133254, .slice none 0 0] 50)
  have hb := heap_keep (heap_alloc_new X (.cells #[.int .u8 120] 5 (1, 2))) (.cells #[.int .u64 35184372088837, .slice (some ⟨X.heap.size, 0, none⟩) 1 1, .int .u64 52776558133254, .slice none 0 0] 50)
  have hr := two_new' X (.cells #[.int .u8 120] 5 (1, 2)) (.cells #[.int .u64 35184372088837, .slice (some ⟨X.heap.size, 0, none⟩) 1 1, .int .u64 52776558133254, .slice none 0 0] 50)
  have KY := K0.trans ((kept_al X (.cells #[.int .u8 120] 5 (1, 2))).trans (kept_al _ (.cells #[.int .u64 35184372088837, .slice (some ⟨X.heap.size, 0, none⟩) 1 1, .int .u64 52776558133254, .slice none 0 0] 50)))
  have d := nine_set hY (.int .i64 1) (.int .i64 0) (.int .i64 1) (.int .i64 3) (.int .i64 5) (.int .i64 2) (.slice (some ⟨X.heap.size + 1, 0, none⟩) 2 2) (.slice none 0 0) (.int .i64 0)
  have O := only_set9 ((X.alloc (.cells #[.int .u8 120] 5 (1, 2))).alloc (.cells #[.int .u64 35184372088837, .slice (some ⟨X.heap.size, 0, none⟩) 1 1, .int .u64 52776558133254, .slice none 0 0] 50)) w.heap.size (.int .i64 1) (.int .i64 0) (.int .i64 1) (.int .i64 3) (.int .i64 5) (.int .i64 2) (.slice (some ⟨X.heap.size + 1, 0, none⟩) 2 2) (.slice none 0 0) (.int .i64 0)
  have KE := KY.onl O (by intro i hi; simp at hi; omega)
  have hne : X.heap.size ∉ [w.heap.size] := by have := HZ.out; simp; omega
  have hne2 : X.heap.size + 1 ∉ [w.heap.size] := by have := HZ.out; simp; omega
  have hb' := O.heap hb hne
  have hr' := O.heap hr hne2
  obtain ⟨q0, q1, q2, q3, q4, q5, q6, q7, q8⟩ := nine_cells hY
  have z0 := one_free hY
  have HB := Lib.hid hb'
  have HR := Lib.hid hr'
  clear hY hb hr KY O hb' hr' hne hne2 h0
  go_wp2_with (go_at_call 9; first | (with_reducible refine (A1 _).mono ?_; rintro E V ⟨rfl, rfl⟩) | (with_reducible refine (A2 _).mono ?_; rintro E V ⟨rfl, rfl⟩))
  clear q0 q1 q2 q3 q4 q5 q6 q7 q8 z0
  obtain ⟨d0, d1, d2, d3, d4, d5, d6, d7, d8⟩ := nine_cells d
  generalize World.setCell (World.setCell (World.setCell (World.setCell (World.setCell (World.setCell (World.setCell (World.setCell (World.setCell _ _ _) _ _) _ _) _ _) _ _) _ _) _ _) _ _) _ _ = Z at *
  have hsl : Sl .u8 Z (some ⟨X.heap.size, 0, none⟩) 1 1 [120] := ⟨rfl, Nat.le_refl _, by unfold maxLen; omega, fun i hi => ⟨X.heap.size, 0, rfl, lt_heap HB.out, by
    have hi0 : i = 0 := by omega
    subst hi0
    exact at_cell HB.out 0 _ rfl⟩⟩
  have hQ : SlQ Z (some ⟨X.heap.size + 1, 0, none⟩) 2 2 [⟨35184372088837, some ⟨X.heap.size, 0, none⟩, 1, 1⟩, ⟨52776558133254, none, 0, 0⟩] := by
    refine ⟨rfl, Nat.le_refl _, by unfold maxLen; omega, fun i r hi => ?_⟩
    match i, hi with
    | 0, hi =>
      injection hi with hi
      subst hi
      exact ⟨by unfold rvOk maxLen; dsimp only; omega, _, _, rfl, at_cell HR.out 0 _ rfl, at_cell HR.out 1 _ rfl⟩
    | 1, hi =>
      injection hi with hi
      subst hi
      exact ⟨by unfold rvOk maxLen; dsimp only; omega, _, _, rfl, at_cell HR.out 2 _ rfl, at_cell HR.out 3 _ rfl⟩
    | i + 2, hi => cases hi
  have hB : BytesAt Z [⟨35184372088837, some ⟨X.heap.size, 0, none⟩, 1, 1⟩, ⟨52776558133254, none, 0, 0⟩] someL := by
    refine ⟨rfl, fun i r l h1 h2 => ?_⟩
    match i, h1, h2 with
    | 0, h1, h2 =>
      injection h1 with h1
      injection h2 with h2
      subst h1 h2
      exact ⟨rfl, hsl⟩
    | 1, h1, h2 =>
      injection h1 with h1
      injection h2 with h2
      subst h1 h2
      exact ⟨rfl, sl_nil _ _⟩
    | i + 2, h1, h2 => cases h1
  exact bodyPost_ret (v := .agg #[.int .i64 1, .int .i64 0, .int .i64 1, .int .i64 3, .int .i64 5, .int .i64 2, .slice (some ⟨X.heap.size + 1, 0, none⟩) 2 2, .slice none 0 0, .int .i64 0]) (by simp [results, Try.results6, go_sem, d0, d1, d2, d3, d4, d5, d6, d7, d8]) rfl ⟨_, _, _, rfl, hQ, hB, KE⟩
end Go.Proofs.Ytpojncpblkklgaa
