/- What the law makes of tables: the document's own. -/
import Derived.Test.YtpojncpblkklgaaMsRef
import Derived.Deep.RegionLaw
import Derived.Deep.CutRange
set_option linter.unusedVariables false
set_option linter.unusedSimpArgs false
namespace Go.Proofs.Ytpojncpblkklgaa
open Go.RowKit
theorem elemU : Elem Try.prog 43 34 (.int .u64 0) 1 8 :=
  ⟨Try.underlying43, info_parts (by kernel_rfl), rfl, by omega⟩
set_option maxRecDepth 100000 in
set_option maxHeartbeats 4000000 in
theorem law_tableOf (a : Option Addr) (n c : Nat) (T : List Int) (E : Int) (w : World) (hS : Sl .u64 w a n c T) (hn : n ≤ 1000) :
    Calls Try.prog 33 #[.agg #[.slice a n c, .int .i64 E]] w fun e w' => ∃ a' c', e = .returned (.agg #[.slice a' n c', .int .i64 E]) ∧ Sl .u64 w' a' n c' T ∧ Kept w w' := by
  have hl := hS.1
  have hnc := hS.2.1
  have hcm := hS.2.2.1
  unfold maxLen at hcm
  have HS := Lib.hid hS
  clear hS
  have K0 : Kept w (((w.alloc (.cells #[.slice a n c, .int .i64 E] 27)).alloc (.cells #[.slice none 0 0, .int .i64 0] 45)).alloc (.cells #[.slice none 0 0, .int .i64 E] 45)) := ((kept_al w _).trans (kept_al _ _)).trans (kept_al _ _)
  have h0 : (((w.alloc (.cells #[.slice a n c, .int .i64 E] 27)).alloc (.cells #[.slice none 0 0, .int .i64 0] 45)).alloc (.cells #[.slice none 0 0, .int .i64 E] 45)).heap[w.heap.size]? = some (.cells #[.slice a n c, .int .i64 E] 27 (0, 0)) := ((kept_al _ _).trans (kept_al _ _)).only.heap (heap_alloc_new w _) (by simp)
  have h1 : (((w.alloc (.cells #[.slice a n c, .int .i64 E] 27)).alloc (.cells #[.slice none 0 0, .int .i64 0] 45)).alloc (.cells #[.slice none 0 0, .int .i64 E] 45)).heap[w.heap.size + 1]? = some (.cells #[.slice none 0 0, .int .i64 0] 45 (0, 0)) := (kept_al _ _).only.heap (new_at _ (by simp)) (by simp)
  have h2 : (((w.alloc (.cells #[.slice a n c, .int .i64 E] 27)).alloc (.cells #[.slice none 0 0, .int .i64 0] 45)).alloc (.cells #[.slice none 0 0, .int .i64 E] 45)).heap[w.heap.size + 2]? = some (.cells #[.slice none 0 0, .int .i64 E] 45 (0, 0)) := new_at _ (by simp)
  have H0 := Lib.hid h0
  have H1 := Lib.hid h1
  have H2 := Lib.hid h2
  obtain ⟨x0, x1⟩ := two_cells (heap_alloc_new w (.cells #[.slice a n c, .int .i64 E] 27))
  clear h0 h1 h2
  go_enter Try.func33, Try.ntmps33
  go_upto_region 2 with fail
  clear x0 x1
  generalize World.alloc (World.alloc (World.alloc w _) _) _ = X at *
  go_wp2_with fail
  go_loopw [4] (fun i wr => ∃ (j : Nat) (a' : Option Addr) (c' : Nat) (g : Option Nat), i = .int .i64 (j : Nat) ∧ j ≤ n ∧ Hid (wr.heap[w.heap.size]? = some (.cells #[.slice a n c, .int .i64 E] 27 (0, 0))) ∧ Hid (wr.heap[w.heap.size + 1]? = some (.cells #[.slice none 0 0, .int .i64 0] 45 (0, 0))) ∧ Hid (wr.heap[w.heap.size + 2]? = some (.cells #[.slice a' j c', .int .i64 E] 45 (0, 0))) ∧ Hid (App wr 34 1 (.slice a' j c') j g ((T.take j).map (Value.int .u64))) ∧ Kept w wr ∧ Hid (∀ k, g = some k → w.heap.size + 2 < k)) (fun i _ => n - (intOf i).toNat)
  case atStart => exact ⟨0, none, 0, none, rfl, by omega, H0.out, H1.out, H2.out, app_nil _ _ _, K0, by intro j hj; cases hj⟩
  case round =>
    obtain ⟨j, a', c', g, rfl, hj, H0', H1', H2', HA, KW, HG⟩ := hrel
    obtain ⟨x0, x1⟩ := two_cells H0'.out
    obtain ⟨y0, y1⟩ := two_cells H2'.out
    have hsz := lt_heap H2'.out
    by_cases hlt : j < n
    · have hlt' : (j : Int) < n := by omega
      obtain ⟨b, o, z, rfl, hzc, hzv⟩ := (KW.sl HS.out).at j hlt
      have HT : Hid ((T.take (j + 1)).map (Value.int .u64) = (T.take j).map (Value.int .u64) ++ [.int .u64 z]) := by
        unfold Hid
        rw [List.take_add_one, List.map_append, hzv.out, List.getD_eq_getElem?_getD, List.getElem?_eq_getElem (show j < T.length by omega)]
        rfl
      clear hzv
      have HAB : Hid (App ((wr.drewN 1).alloc (.cells #[.int .u64 z] 34)) 34 1 (.slice a' j c') j g ((T.take j).map (Value.int .u64))) := (((Only.refl [] wr).drewN 1).alloc _).app HA.out (by simp)
      have hgq : w.heap.size + 2 ∉ g.toList := by intro hm; have := HG.out _ (by simpa using hm); omega
      have hgr := HA.out.lt
      go_wp2_with fail
      go_region_law (refine step_app rfl (.tmp 16) (.tmp 22) 43 43 rfl elemU _ j _ _ rfl HAB.out _ 1 _ rfl (src_block Try.underlying43 (heap_alloc_new (wr.drewN 1) _) 1 1 rfl (by simp [Value.oneCell'])) (by omega) (by unfold maxLen; omega) ?_; intro a5 c5 g5 w5 hA5 hO5 hG5; have q2 := hO5.heap (heap_keep (w := wr.drewN 1) H2'.out _) hgq; have q3 := two_cells q2; have q4 := one_free q2 0)
      all_goals (
        go_wp2
        go_roundw
        case rel =>
          have hn0 : w.heap.size ∉ g.toList := by intro hm; have := HG.out _ (by simpa using hm); omega
          have hn1 : w.heap.size + 1 ∉ g.toList := by intro hm; have := HG.out _ (by simpa using hm); omega
          have k0 := hO5.heap (heap_keep (w := wr.drewN 1) H0'.out _) hn0
          have k1 := hO5.heap (heap_keep (w := wr.drewN 1) H1'.out _) hn1
          have hg5 : ∀ k, g5 = some k → w.heap.size + 2 < k := by
            rcases hG5 with rfl | rfl
            · exact HG.out
            · intro q hq
              injection hq with hq
              simp at hq
              omega
          have KA : Kept w ((wr.drewN 1).alloc (.cells #[.int .u64 z] 34)) := (KW.dr ⟨1, rfl⟩).trans (kept_al _ _)
          have K5 : Kept w w5 := KA.onl hO5 (by intro q hq; have := HG.out q (by simpa using hq); omega)
          refine ⟨j + 1, a5, c5, g5, by go_num, by omega, ((Only.refl [w.heap.size + 2] w5).setCell (fun _ => by simp) _).heap k0 (by simp), ((Only.refl [w.heap.size + 2] w5).setCell (fun _ => by simp) _).heap k1 (by simp), at_set q2 0 _, ?_, K5.onl ((Only.refl [w.heap.size + 2] w5).setCell (fun _ => by simp) _) (by intro q hq; have := List.mem_singleton.1 hq; omega), hg5⟩
          unfold Hid
          rw [HT.out]
          exact ((Only.refl [w.heap.size + 2] w5).setCell (fun _ => by simp) _).app hA5 (by intro k hk hm; have := hg5 k hk; simp at hm; omega)
        case measure => simp [intOf]; omega)
    · have hge : (n : Int) ≤ j := by omega
      obtain rfl : j = n := by omega
      have e2 := two_cells H1'.out
      have f2 := one_free H1'.out 0
      have f3 := one_free H1'.out 1
      obtain ⟨e0, e1⟩ := e2
      have hS2 := (app_slk (k := .u64) (xs := T) (by have h := HA.out; rwa [List.take_of_length_le (show T.length ≤ j by omega)] at h)).1
      have hlt2 : ∀ x, a' = some x → x.block ≠ w.heap.size + 1 := fun x hx => by
        have := HG.out x.block ((app_slk (k := .u64) (xs := T.take j) HA.out).2 x hx)
        omega
      go_wp2
      have d := two_set H1'.out (.slice a' j c') (.int .i64 E)
      obtain ⟨d0, d1⟩ := two_cells d
      refine bodyPost_ret (v := .agg #[.slice a' j c', .int .i64 E]) (by simp [results, Try.results33, go_sem, d0, d1]) rfl ⟨a', c', rfl, (only_set2 wr (w.heap.size + 1) _ _).sl hS2 (fun x hx => by simpa using hlt2 x hx), KW.onl (only_set2 wr (w.heap.size + 1) _ _) (by intro q hq; have := List.mem_singleton.1 hq; omega)⟩
end Go.Proofs.Ytpojncpblkklgaa
