/- Of: records of which the second is refused. -/
import Derived.Test.YtfblkdecbjplbaaEpOf2
import Derived.Test.YtfblkdecbjplbaaEpAddNo
set_option linter.unusedVariables false
set_option linter.unusedSimpArgs false
namespace Go.Proofs.Ytfblkdecbjplbaa
open Go.RowKit
theorem one_good (x : Int) (h0 : 0 ≤ x) (h1 : x ≤ 18446744073709551615) : GoodT [x] (ofI x + 1) := by
  refine ⟨fun i hi => ?_, by unfold ofI; omega, by unfold ofI; omega⟩
  obtain rfl : i = 0 := by simpa using hi
  exact ⟨by show ofI x < ofI x + 1; omega, fun h => by omega⟩
set_option maxRecDepth 100000 in
set_option maxHeartbeats 2000000 in
theorem ep_of_no (a : Option Addr) (n c : Nat) (l : List Int) (w : World) (hS : Sl .u64 w a n c l) (hW : IsW l) (h2n : 2 ≤ n) (hb : n ≤ 1000) (hno : ofI (l.getD 1 0) ≠ ofI (l.getD 0 0) + 1 ∨ (ofI (l.getD 1 0) = ofI (l.getD 0 0) + 1 ∧ epI (l.getD 1 0) < epI (l.getD 0 0))) :
    Calls Try.prog 9 #[.slice a n c] w fun e w' => e = .returned (.tuple #[.agg #[.slice none 0 0, .int .i64 0], .bool false]) ∧ Kept w w' := by
  have hl := hS.1
  have hnc := hS.2.1
  have hcm := hS.2.2.1
  unfold maxLen at hcm
  have HS := Lib.hid hS
  have HW := Lib.hid hW
  have HNo := Lib.hid hno
  have KB : Kept w ((w.alloc (.cells #[.slice none 0 0, .int .i64 0] 29)).alloc (.cells #[.slice none 0 0, .int .i64 0] 29)) := (((Only.refl [] w).alloc _).alloc _).kept
  have hT := two_new' w (.cells #[.slice none 0 0, .int .i64 0] 29) (.cells #[.slice none 0 0, .int .i64 0] 29)
  have hR := (kept_al (w.alloc (.cells #[.slice none 0 0, .int .i64 0] 29)) (.cells #[.slice none 0 0, .int .i64 0] 29)).only.heap (heap_alloc_new w (.cells #[.slice none 0 0, .int .i64 0] 29)) (by simp)
  have HT := Lib.hid hT
  have HR := Lib.hid hR
  clear hS hW hno hT hR
  have hL : l ≠ [] := by intro h; rw [h] at hl; simp at hl; omega
  obtain ⟨b, o, x, rfl, hx, hxv⟩ := HS.out.at 0 (by omega)
  have hb0 := HW.out 0
  rw [← hxv.out] at hb0
  have HX0 : Hid (l.getD 0 0 = x) := hxv.out.symm
  obtain ⟨x0, x1⟩ := hb0
  rw [Nat.add_zero] at hx
  have HXc := Lib.hid hx
  have hn1 : 0 < (n : Int) := by omega
  have hof : 0 ≤ ofI x ∧ ofI x ≤ 17592186044415 := by unfold ofI; omega
  clear hxv hx
  have hxB := KB.cel HXc.out
  obtain ⟨t0, t1⟩ := two_cells HT.out
  have f1 := one_free HT.out 1
  have K2 : Kept w ((w.alloc (.cells #[.slice none 0 0, .int .i64 0] 29)).alloc (.cells #[.slice none 0 0, .int .i64 (ofI x)] 29)) := (((Only.refl [] w).alloc _).alloc _).kept
  have HT2 := Lib.hid (two_new' w (.cells #[.slice none 0 0, .int .i64 0] 29) (.cells #[.slice none 0 0, .int .i64 (ofI x)] 29))
  have HR2 := Lib.hid ((kept_al (w.alloc (.cells #[.slice none 0 0, .int .i64 0] 29)) (.cells #[.slice none 0 0, .int .i64 (ofI x)] 29)).only.heap (heap_alloc_new w (.cells #[.slice none 0 0, .int .i64 0] 29)) (by simp))
  go_enter Try.func9, Try.ntmps9
  go_wp2_with fail
  refine (stamp_off x _ x0 x1).mono ?_
  rintro e w' ⟨rfl, rfl⟩
  go_wp2_with fail
  clear t0 t1 f1 hxB HT HR KB
  generalize World.alloc (World.alloc w _) _ = W at *
  have hNC : Hid (n ≤ c) := hnc
  go_loopw [19] (fun i wr => ∃ (j : Nat) (a' : Option Addr) (c' : Nat), j ≤ 1 ∧ i = .int .i64 j ∧ Hid (wr.heap[w.heap.size + 1]? = some (.cells #[.slice a' j c', .int .i64 (ofI x + j)] 29 (0, 0))) ∧ Hid (wr.heap[w.heap.size]? = some (.cells #[.slice none 0 0, .int .i64 0] 29 (0, 0))) ∧ Hid (Sl .u64 wr a' j c' (if j = 0 then [] else [x])) ∧ Kept w wr) (fun i _ => 2 - (intOf i).toNat)
  case atStart => exact ⟨0, none, 0, by omega, rfl, (by rw [show ofI x + ((0 : Nat) : Int) = ofI x by omega]; exact HT2.out), HR2.out, sl_nil _ _, K2⟩
  case round =>
    obtain ⟨j, a', c', hj, rfl, HTj, HRj, HSj, Kj⟩ := hrel
    have hn0 : (0 : Int) < n := by omega
    have hn1' : (1 : Int) < n := by omega
    by_cases hj0 : j = 0
    · subst hj0
      have e0 : ofI x + ((0 : Nat) : Int) = ofI x := by omega
      have hT0 : wr.heap[w.heap.size + 1]? = some (.cells #[.slice a' 0 c', .int .i64 (ofI x)] 29 (0, 0)) := by have := HTj.out; rwa [e0] at this
      obtain ⟨t0, t1⟩ := two_cells hT0
      have hxc := Kj.cel HXc.out
      have hA := ep_add_nil a' c' [] (ofI x) x wr (by have := HSj.out; simpa using this) (by intro i; simp) x0 x1 (good_nil (by omega) (by omega)) rfl (by omega)
      have HA := Lib.hid hA
      have HT0 := Lib.hid hT0
      clear hA hT0 e0
      go_wp2_with fail
      refine HA.out.mono ?_
      rintro e V ⟨a2, n2, c2, rfl, hS2, hfr, KV⟩
      obtain rfl : 1 = n2 := by simpa using hS2.1
      have HS2 := Lib.hid hS2
      have hwr : w.heap.size + 1 < wr.heap.size := lt_heap HT0.out
      have hin3 : inB a2 [w.heap.size + 1] := by intro y hy hm; have := hfr y hy; simp at hm; omega
      clear HA hS2 hxc t0 t1
      have hTV := (KV.trans (kept_al V (.cells #[.slice a2 1 c2, .int .i64 (ofI x + 1)] 29))).only.heap HT0.out (by simp)
      have hRV := Lib.hid ((KV.trans (kept_al V (.cells #[.slice a2 1 c2, .int .i64 (ofI x + 1)] 29))).only.heap HRj.out (by simp))
      have hNV := heap_alloc_new V (.cells #[.slice a2 1 c2, .int .i64 (ofI x + 1)] 29)
      obtain ⟨t0, t1⟩ := two_cells hTV
      obtain ⟨s0, s1⟩ := two_cells hNV
      have f0 := one_free hTV 0
      have f1 := one_free hTV 1
      have HTV := Lib.hid (two_set hTV (.slice a2 1 c2) (.int .i64 (ofI x + 1)))
      clear hTV hNV
      go_wp2_with fail
      go_roundw
      case rel =>
        have e1 : ofI x + ((1 : Nat) : Int) = ofI x + 1 := by omega
        exact ⟨1, a2, c2, by omega, by go_num, (by rw [e1]; exact HTV.out), (only_set2 _ (w.heap.size + 1) _ _).heap hRV.out (by simp), (by unfold Hid; exact (only_set2 _ (w.heap.size + 1) _ _).sl ((kept_al V _).sl HS2.out) hin3), ((Kj.trans KV).trans (kept_al V _)).onl (only_set2 _ (w.heap.size + 1) _ _) (by intro i hi; have := List.mem_singleton.1 hi; omega)⟩
      case measure => simp [intOf]
    · obtain rfl : j = 1 := by omega
      obtain ⟨b2, o2, y, hab, hy, hyv⟩ := (Kj.sl HS.out).at 1 (by omega)
      injection hab with hab
      injection hab with hab1 hab2
      subst hab1 hab2
      have hyb := HW.out 1
      rw [← hyv.out] at hyb
      obtain ⟨y0, y1⟩ := hyb
      have hSx : Sl .u64 wr a' 1 c' [x] := by have := HSj.out; simpa using this
      have hWx : IsW [x] := isW_of_mem (by intro z hz; rw [List.mem_singleton.1 hz]; exact ⟨x0, x1⟩)
      have e1 : ofI x + ((1 : Nat) : Int) = ofI x + 1 := by omega
      have hT1 : wr.heap[w.heap.size + 1]? = some (.cells #[.slice a' 1 c', .int .i64 (ofI x + 1)] 29 (0, 0)) := by have := HTj.out; rwa [e1] at this
      obtain ⟨t0, t1⟩ := two_cells hT1
      have hA : Calls Try.prog 15 #[.agg #[.slice a' 1 c', .int .i64 (ofI x + 1)], .int .u64 y] wr fun e w' => e = .returned (.tuple #[.agg #[.slice none 0 0, .int .i64 0], .bool false]) ∧ Kept wr w' := by
        have hno := HNo.out
        rw [HX0.out, ← hyv.out] at hno
        rcases hno with h | ⟨h, h2⟩
        · exact ep_add_off a' c' 1 [x] (ofI x + 1) y wr hSx hWx y0 y1 (one_good x x0 x1) h
        · exact ep_add_low a' c' 0 [x] (ofI x + 1) y wr hSx hWx y0 y1 (one_good x x0 x1) h h2 (by omega)
      have HA := Lib.hid hA
      clear hA hSx hWx e1 hT1 hyv
      go_wp2_with fail
      refine HA.out.mono ?_
      rintro e V ⟨rfl, KV⟩
      have hRV := (KV.trans (kept_al V (.cells #[.slice none 0 0, .int .i64 0] 29))).only.heap HRj.out (by simp)
      obtain ⟨r0, r1⟩ := two_cells hRV
      have f0 := one_free hRV 0
      have f1 := one_free hRV 1
      obtain ⟨d0, d1⟩ := two_cells (two_set hRV (.slice none 0 0) (.int .i64 0))
      have KF := (((Kj.trans KV).trans (kept_al V (.cells #[.slice none 0 0, .int .i64 0] 29))).onl (only_set2 _ w.heap.size (.slice none 0 0) (.int .i64 0)) (by intro i hi; have := List.mem_singleton.1 hi; omega))
      clear HA t0 t1 hRV
      go_wp2
      exact bodyPost_ret (v := .tuple #[.agg #[.slice none 0 0, .int .i64 0], .bool false]) (by simp [results, Try.results9, go_sem, d0, d1]) rfl ⟨rfl, KF⟩
end Go.Proofs.Ytfblkdecbjplbaa
