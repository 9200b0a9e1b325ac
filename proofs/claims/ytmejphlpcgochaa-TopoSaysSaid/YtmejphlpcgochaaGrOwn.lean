/- What the law makes of a graph: the document's own. -/
import Derived.Test.YtmejphlpcgochaaGrI
import Derived.Deep.RegionLaw
set_option linter.unusedVariables false
set_option linter.unusedSimpArgs false
namespace Go.Proofs.Ytmejphlpcgochaa
open Go.RowKit
theorem elemA2 : Elem Try.prog 39 32 (kv 0 0) 2 16 :=
  ⟨Try.underlying39, info_parts (by kernel_rfl), rfl, by omega⟩
theorem app_blkE {w : World} {e : TypeId} {size n c : Nat} {a : Option Addr} {g : Option Nat} {xs : List Value} (h : App w e size (.slice a n c) n g xs) : ∀ x, a = some x → g = some x.block := fun x hx => by
  subst hx
  exact app_blkI h
theorem edVs_snoc (E : List Ed) (a b : Int) : edVs (E ++ [(a, b)]) = edVs E ++ [.int .i64 a, .int .i64 b] := by rw [edVs_app]; rfl
set_option maxRecDepth 100000 in
set_option maxHeartbeats 4000000 in
theorem law_own {w : World} {s : Option Addr} {n c : Nat} {E : List Ed} (N : Int) (hE : SlE w s n c E) (hn : n ≤ 900) :
    Calls Try.prog 17 #[.agg #[.int .i64 N, .slice s n c]] w fun e w' => ∃ a' c', e = .returned (.agg #[.int .i64 N, .slice a' n c']) ∧ SlE w' a' n c' E ∧ Kept w w' := by
  have hl := hE.1
  have hnc := hE.2.1
  have HE := Lib.hid hE
  clear hE
  have K0 : Kept w (((w.alloc (.cells #[.int .i64 N, .slice s n c] 24)).alloc (.cells #[.int .i64 0, .slice none 0 0] 41)).alloc (.cells #[.int .i64 N, .slice none 0 0] 41)) := ((kept_al w _).trans (kept_al _ _)).trans (kept_al _ _)
  have h0 : (((w.alloc (.cells #[.int .i64 N, .slice s n c] 24)).alloc (.cells #[.int .i64 0, .slice none 0 0] 41)).alloc (.cells #[.int .i64 N, .slice none 0 0] 41)).heap[w.heap.size]? = some (.cells #[.int .i64 N, .slice s n c] 24 (0, 0)) := ((kept_al _ _).trans (kept_al _ _)).only.heap (heap_alloc_new w _) (by simp)
  have h1 : (((w.alloc (.cells #[.int .i64 N, .slice s n c] 24)).alloc (.cells #[.int .i64 0, .slice none 0 0] 41)).alloc (.cells #[.int .i64 N, .slice none 0 0] 41)).heap[w.heap.size + 1]? = some (.cells #[.int .i64 0, .slice none 0 0] 41 (0, 0)) := (kept_al _ _).only.heap (by have := heap_alloc_new (w.alloc (.cells #[.int .i64 N, .slice s n c] 24)) (.cells #[.int .i64 0, .slice none 0 0] 41); simpa using this) (by simp)
  have h2 : (((w.alloc (.cells #[.int .i64 N, .slice s n c] 24)).alloc (.cells #[.int .i64 0, .slice none 0 0] 41)).alloc (.cells #[.int .i64 N, .slice none 0 0] 41)).heap[w.heap.size + 2]? = some (.cells #[.int .i64 N, .slice none 0 0] 41 (0, 0)) := by
    have := heap_alloc_new ((w.alloc (.cells #[.int .i64 N, .slice s n c] 24)).alloc (.cells #[.int .i64 0, .slice none 0 0] 41)) (.cells #[.int .i64 N, .slice none 0 0] 41)
    simpa using this
  have H0 := Lib.hid h0
  have H1 := Lib.hid h1
  have H2 := Lib.hid h2
  have x0 := at_cell (heap_alloc_new w (.cells #[.int .i64 N, .slice s n c] 24)) 0 _ rfl
  have x0' := at_cell (heap_keep (heap_alloc_new w (.cells #[.int .i64 N, .slice s n c] 24)) (.cells #[.int .i64 0, .slice none 0 0] 41)) 0 _ rfl
  clear h0 h1 h2
  go_enter Try.func17, Try.ntmps17
  go_upto_region 2 with fail
  clear x0 x0'
  generalize World.alloc (World.alloc (World.alloc w _) _) _ = X at *
  go_wp2_with fail
  go_loopw [4] (fun i wr => ∃ (j : Nat) (a' : Option Addr) (c' : Nat) (g : Option Nat), i = .int .i64 (j : Nat) ∧ j ≤ n ∧ Hid (wr.heap[w.heap.size]? = some (.cells #[.int .i64 N, .slice s n c] 24 (0, 0))) ∧ Hid (wr.heap[w.heap.size + 1]? = some (.cells #[.int .i64 0, .slice none 0 0] 41 (0, 0))) ∧ Hid (wr.heap[w.heap.size + 2]? = some (.cells #[.int .i64 N, .slice a' j c'] 41 (0, 0))) ∧ Hid (App wr 32 2 (.slice a' j c') j g (edVs (E.take j))) ∧ Kept w wr ∧ Hid (∀ k, g = some k → w.heap.size + 2 < k)) (fun i _ => n - (intOf i).toNat)
  case atStart => exact ⟨0, none, 0, none, rfl, by omega, H0.out, H1.out, H2.out, app_nil _ _ _, K0, by intro j hj; cases hj⟩
  case round =>
    obtain ⟨j, a', c', g, rfl, hj, H0', H1', H2', HA, KW, HG⟩ := hrel
    have x1 := at_cell H0'.out 1 _ rfl
    have y1 := at_cell H2'.out 1 _ rfl
    have hsz := lt_heap H2'.out
    by_cases hlt : j < n
    · have hlt' : (j : Int) < n := by omega
      obtain ⟨⟨xa, xb⟩, hx⟩ : ∃ x, E[j]? = some x := ⟨_, List.getElem?_eq_getElem (by omega)⟩
      obtain ⟨bs, o, rfl, q0, q1⟩ := (HE.out.kept KW).at hx
      dsimp only at q0 q1
      have HT : Hid (edVs (E.take (j + 1)) = edVs (E.take j) ++ [.int .i64 xa, .int .i64 xb]) := by
        unfold Hid
        rw [List.take_add_one, hx]
        exact edVs_snoc _ _ _
      have HAB : Hid (App ((wr.drewN 1).alloc (.cells #[.int .i64 xa, .int .i64 xb] 32)) 32 2 (.slice a' j c') j g (edVs (E.take j))) := (((Only.refl [] wr).drewN 1).alloc _).app HA.out (by simp)
      have hgq : w.heap.size + 2 ∉ g.toList := by intro hm; have := HG.out _ (by simpa using hm); omega
      have hgr := HA.out.lt
      clear hx
      go_wp2_with fail
      go_region_law (refine step_app rfl (.tmp 16) (.tmp 22) 39 39 rfl elemA2 _ j _ _ rfl HAB.out _ 1 _ rfl (src_block Try.underlying39 (heap_alloc_new (wr.drewN 1) _) 1 1 rfl (by simp [Value.oneCell'])) (by omega) (by unfold maxLen; omega) ?_; intro a5 c5 g5 w5 hA5 hO5 hG5; have q2 := hO5.heap (heap_keep (w := wr.drewN 1) H2'.out _) hgq; have q3 := at_cell q2 1 _ rfl; have q4 := one_free q2 1)
      all_goals (
        go_wp2
        go_roundw
        case rel =>
          have hn0 : w.heap.size ∉ g.toList := by intro hm; have := HG.out _ (by simpa using hm); omega
          have hn1 : w.heap.size + 1 ∉ g.toList := by intro hm; have := HG.out _ (by simpa using hm); omega
          have k0 := hO5.heap (heap_keep (w := wr.drewN 1) H0'.out _) hn0
          have k1 := hO5.heap (heap_keep (w := wr.drewN 1) H1'.out _) hn1
          have hg5 : ∀ k, g5 = some k → w.heap.size + 2 < k := by
            rcases hG5 with rfl | rfl
            · exact HG.out
            · intro q hq
              injection hq with hq
              simp at hq
              omega
          have KA : Kept w ((wr.drewN 1).alloc (.cells #[.int .i64 xa, .int .i64 xb] 32)) := (KW.dr ⟨1, rfl⟩).trans (kept_al _ _)
          have K5 : Kept w w5 := KA.onl hO5 (by intro q hq; have := HG.out q (by simpa using hq); omega)
          refine ⟨j + 1, a5, c5, g5, by go_num, by omega, ((Only.refl [w.heap.size + 2] w5).setCell (fun _ => by simp) _).heap k0 (by simp), ((Only.refl [w.heap.size + 2] w5).setCell (fun _ => by simp) _).heap k1 (by simp), at_set q2 1 _, ?_, K5.onl ((Only.refl [w.heap.size + 2] w5).setCell (fun _ => by simp) _) (by intro q hq; have := List.mem_singleton.1 hq; omega), hg5⟩
          unfold Hid
          rw [HT.out]
          exact ((Only.refl [w.heap.size + 2] w5).setCell (fun _ => by simp) _).app hA5 (by intro k hk hm; have := hg5 k hk; simp at hm; omega)
        case measure => simp [intOf]; omega)
    · have hge : (n : Int) ≤ j := by omega
      obtain rfl : j = n := by omega
      have e0 := at_cell H1'.out 0 _ rfl
      have e1 := at_cell H1'.out 1 _ rfl
      have y0 := at_cell H2'.out 0 _ rfl
      have f2 := one_free H1'.out 0
      have f3 := one_free H1'.out 1
      have hA2 := HA.out
      rw [List.take_of_length_le (by omega)] at hA2
      go_wp2
      have o1 : Only [w.heap.size + 1] wr (wr.setCell ⟨w.heap.size + 1, 0, none⟩ (.int .i64 N)) := (Only.refl _ _).setCell (fun _ => by simp) _
      have o2 : Only [w.heap.size + 1] wr ((wr.setCell ⟨w.heap.size + 1, 0, none⟩ (.int .i64 N)).setCell ⟨w.heap.size + 1, 1, none⟩ (.slice a' j c')) := o1.setCell (fun _ => by simp) _
      have d := at_set (at_set H1'.out 0 (.int .i64 N)) 1 (.slice a' j c')
      have d0 := at_cell d 0 _ rfl
      have d1 := at_cell d 1 _ rfl
      have hA3 := o2.app hA2 (by intro k hk hm; have := HG.out k hk; simp at hm; omega)
      refine bodyPost_ret (v := .agg #[.int .i64 N, .slice a' j c']) (by simp [results, Try.results17, go_sem, d0, d1]) rfl ⟨a', c', rfl, slE_app hA3, KW.onl o2 (by intro q hq; have := List.mem_singleton.1 hq; omega)⟩
end Go.Proofs.Ytmejphlpcgochaa
