/- Of: the walk. -/
import Derived.Test.YtfblkdecbjplbaaEpOf
set_option linter.unusedVariables false
set_option linter.unusedSimpArgs false
namespace Go.Proofs.Ytfblkdecbjplbaa
open Go.RowKit
theorem ep_add (a : Option Addr) (n c : Nat) (L : List Int) (E s : Int) (w : World) (hS : Sl .u64 w a n c L) (hW : IsW L) (s0 : 0 ≤ s) (s1 : s ≤ 18446744073709551615) (hg : GoodT L E) (ho : ofI s = E) (he : L ≠ [] → epI (L.getD (L.length - 1) 0) ≤ epI s) (hb : n ≤ 1000) :
    Calls Try.prog 15 #[.agg #[.slice a n c, .int .i64 E], .int .u64 s] w fun e w' => ∃ a' n' c', e = .returned (.tuple #[.agg #[.slice a' n' c', .int .i64 (E + 1)], .bool true]) ∧ Sl .u64 w' a' n' c' (addL L s) ∧ (∀ y, a' = some y → w.heap.size ≤ y.block) ∧ Kept w w' := by
  have hl := hS.1
  cases n with
  | zero =>
    have hL : L = [] := List.eq_nil_of_length_eq_zero hl
    rw [show addL L s = L ++ [s] from if_pos (.inl hL)]
    exact ep_add_nil a c L E s w hS hW s0 s1 hg ho hb
  | succ t =>
    have hne : L ≠ [] := by intro h; rw [h] at hl; simp at hl
    have h1 := he hne
    rw [show L.length - 1 = t by omega] at h1
    by_cases hlt : epI (L.getD t 0) < epI s
    · rw [show addL L s = L ++ [s] from if_pos (.inr (by rw [show L.length - 1 = t by omega]; exact hlt))]
      exact ep_add_lt a c t L E s w hS hW s0 s1 hg ho hlt hb
    · rw [show addL L s = L from if_neg (by rintro (h | h); exact hne h; rw [show L.length - 1 = t by omega] at h; exact hlt h)]
      exact ep_add_eq a c t L E s w hS hW s0 s1 hg ho (by omega) hb
def endOf (l : List Int) : Int := if l = [] then 0 else ofI (l.getD 0 0) + l.length
set_option maxRecDepth 100000 in
set_option maxHeartbeats 2000000 in
theorem ep_of (a : Option Addr) (n c : Nat) (l : List Int) (w : World) (hS : Sl .u64 w a n c l) (hW : IsW l) (hr : Rises l) (hm : ofI (l.getD 0 0) + n ≤ 17592186044416) (hb : n ≤ 1000) :
    Calls Try.prog 9 #[.slice a n c] w fun e w' => ∃ a' n' c', e = .returned (.tuple #[.agg #[.slice a' n' c', .int .i64 (endOf l)], .bool true]) ∧ Sl .u64 w' a' n' c' (tabL l n) ∧ Kept w w' := by
  have hl := hS.1
  have hnc := hS.2.1
  have hcm := hS.2.2.1
  unfold maxLen at hcm
  have HS := Lib.hid hS
  have HW := Lib.hid hW
  have HRi := Lib.hid hr
  have HM := Lib.hid hm
  have KB : Kept w ((w.alloc (.cells #[.slice none 0 0, .int .i64 0] 29)).alloc (.cells #[.slice none 0 0, .int .i64 0] 29)) := (((Only.refl [] w).alloc _).alloc _).kept
  have hT := two_new' w (.cells #[.slice none 0 0, .int .i64 0] 29) (.cells #[.slice none 0 0, .int .i64 0] 29)
  have hR := (kept_al (w.alloc (.cells #[.slice none 0 0, .int .i64 0] 29)) (.cells #[.slice none 0 0, .int .i64 0] 29)).only.heap (heap_alloc_new w (.cells #[.slice none 0 0, .int .i64 0] 29)) (by simp)
  have HT := Lib.hid hT
  have HR := Lib.hid hR
  clear hS hW hr hm hT hR
  by_cases h0 : n = 0
  · subst h0
    have hL : l = [] := List.eq_nil_of_length_eq_zero hl
    subst hL
    obtain ⟨t0, t1⟩ := two_cells HT.out
    obtain ⟨r0, r1⟩ := two_cells HR.out
    have f0 := one_free HR.out 0
    have f1 := one_free HR.out 1
    obtain ⟨d0, d1⟩ := two_cells (two_set HR.out (.slice none 0 0) (.int .i64 0))
    go_enter Try.func9, Try.ntmps9
    go_wp2_with fail
    go_loopw [19] (fun i wr => i = .int .i64 0 ∧ wr = (w.alloc (.cells #[.slice none 0 0, .int .i64 0] 29)).alloc (.cells #[.slice none 0 0, .int .i64 0] 29)) (fun i _ => 0)
    case atStart => exact ⟨rfl, rfl⟩
    case round =>
      obtain ⟨rfl, rfl⟩ := hrel
      go_wp2
      refine bodyPost_ret (v := .tuple #[.agg #[.slice none 0 0, .int .i64 0], .bool true]) (by simp [results, Try.results9, go_sem, d0, d1]) rfl ⟨none, 0, 0, rfl, sl_nil _ _, ?_⟩
      exact KB
  · have hL : l ≠ [] := by intro h; rw [h] at hl; simp at hl; omega
    have hE : endOf l = ofI (l.getD 0 0) + n := by unfold endOf; rw [if_neg hL, hl]
    obtain ⟨b, o, x, rfl, hx, hxv⟩ := HS.out.at 0 (by omega)
    have hb0 := HW.out 0
    rw [← hxv.out] at hb0
    have HX0 : Hid (l.getD 0 0 = x) := hxv.out.symm
    obtain ⟨x0, x1⟩ := hb0
    rw [Nat.add_zero] at hx
    have HXc := Lib.hid hx
    have hn1 : 0 < (n : Int) := by omega
    have hof : 0 ≤ ofI x ∧ ofI x ≤ 17592186044415 := by unfold ofI; omega
    have HEN := Lib.hid hE
    clear hxv hx hE
    have hxB := KB.cel HXc.out
    obtain ⟨t0, t1⟩ := two_cells HT.out
    have f1 := one_free HT.out 1
    have K2 : Kept w ((w.alloc (.cells #[.slice none 0 0, .int .i64 0] 29)).alloc (.cells #[.slice none 0 0, .int .i64 (ofI x)] 29)) := (((Only.refl [] w).alloc _).alloc _).kept
    have HT2 := Lib.hid (two_new' w (.cells #[.slice none 0 0, .int .i64 0] 29) (.cells #[.slice none 0 0, .int .i64 (ofI x)] 29))
    have HR2 := Lib.hid ((kept_al (w.alloc (.cells #[.slice none 0 0, .int .i64 0] 29)) (.cells #[.slice none 0 0, .int .i64 (ofI x)] 29)).only.heap (heap_alloc_new w (.cells #[.slice none 0 0, .int .i64 0] 29)) (by simp))
    go_enter Try.func9, Try.ntmps9
    go_wp2_with fail
    refine (stamp_off x _ x0 x1).mono ?_
    rintro e w' ⟨rfl, rfl⟩
    go_wp2_with fail
    clear t0 t1 f1 hxB HT HR KB
    generalize World.alloc (World.alloc w _) _ = W at *
    have hNC : Hid (n ≤ c) := hnc
    go_loopw [19] (fun i wr => ∃ (j : Nat) (a' : Option Addr) (n' c' : Nat), j ≤ n ∧ i = .int .i64 j ∧ Hid (wr.heap[w.heap.size + 1]? = some (.cells #[.slice a' n' c', .int .i64 (ofI x + j)] 29 (0, 0))) ∧ Hid (wr.heap[w.heap.size]? = some (.cells #[.slice none 0 0, .int .i64 0] 29 (0, 0))) ∧ Hid (Sl .u64 wr a' n' c' (tabL l j)) ∧ inB a' [w.heap.size, w.heap.size + 1] ∧ Kept w wr) (fun i _ => n - (intOf i).toNat)
    case atStart => exact ⟨0, none, 0, 0, by omega, rfl, (by rw [show ofI x + ((0 : Nat) : Int) = ofI x by omega]; exact HT2.out), HR2.out, sl_nil _ _, (by intro y hy; cases hy), K2⟩
    case round =>
      obtain ⟨j, a', n', c', hj, rfl, HTj, HRj, HSj, hin, Kj⟩ := hrel
      obtain ⟨t0, t1⟩ := two_cells HTj.out
      by_cases hlt : j < n
      · have hlt' : (j : Int) < n := by omega
        obtain ⟨b2, o2, y, hab, hy, hyv⟩ := (Kj.sl HS.out).at j hlt
        injection hab with hab
        injection hab with hab1 hab2
        subst hab1 hab2
        have hyb := HW.out j
        rw [← hyv.out] at hyb
        obtain ⟨y0, y1⟩ := hyb
        have hn' : n' ≤ 1000 := by have h1 := HSj.out.1; have h2 := tabL_len l j; omega
        have hgood := tab_good HRi.out HW.out (by omega) (by rw [hl]; exact HM.out) j (by omega)
        rw [HX0.out] at hgood
        have hoy : ofI y = ofI x + j := by rw [hyv.out, ← HX0.out]; exact rises_off HRi.out j (by omega)
        have hey : tabL l j ≠ [] → epI ((tabL l j).getD ((tabL l j).length - 1) 0) ≤ epI y := by
          intro hne
          cases j with
          | zero => exact absurd rfl hne
          | succ k =>
            rw [(tabL_last HRi.out k (by omega)).2, hyv.out]
            exact (HRi.out k (by omega)).2
        have hWt : IsW (tabL l j) := isW_of_mem fun z hz => isW_mem HW.out z (tabL_mem l j (by omega) z hz)
        have hA := ep_add a' n' c' (tabL l j) (ofI x + j) y wr HSj.out hWt y0 y1 hgood hoy hey hn'
        rw [show addL (tabL l j) y = tabL l (j + 1) by rw [hyv.out]; rfl] at hA
        have HA := Lib.hid hA
        clear hA hgood hoy hey hWt hyv
        go_wp2_with fail
        refine HA.out.mono ?_
        rintro e V ⟨a2, n2, c2, rfl, hS2, hfr, KV⟩
        have hwr : w.heap.size + 1 < wr.heap.size := lt_heap HTj.out
        have hin2 : inB a2 [w.heap.size, w.heap.size + 1] := by intro y hy hm; have := hfr y hy; simp at hm; omega
        have hin3 : inB a2 [w.heap.size + 1] := by intro y hy hm; have := hfr y hy; simp at hm; omega
        have HS2 := Lib.hid hS2
        clear HA hS2 hy t0 t1
        have hTV := (KV.trans (kept_al V (.cells #[.slice a2 n2 c2, .int .i64 (ofI x + j + 1)] 29))).only.heap HTj.out (by simp)
        have hRV := Lib.hid ((KV.trans (kept_al V (.cells #[.slice a2 n2 c2, .int .i64 (ofI x + j + 1)] 29))).only.heap HRj.out (by simp))
        have hNV := heap_alloc_new V (.cells #[.slice a2 n2 c2, .int .i64 (ofI x + j + 1)] 29)
        obtain ⟨t0, t1⟩ := two_cells hTV
        obtain ⟨s0, s1⟩ := two_cells hNV
        have f0 := one_free hTV 0
        have f1 := one_free hTV 1
        have HTV := Lib.hid (two_set hTV (.slice a2 n2 c2) (.int .i64 (ofI x + j + 1)))
        clear hTV hNV
        go_wp2_with fail
        go_roundw
        case rel =>
          have e1 : ofI x + ((j + 1 : Nat) : Int) = ofI x + j + 1 := by push_cast; omega
          exact ⟨j + 1, a2, n2, c2, by omega, by go_num, (by rw [e1]; exact HTV.out), (only_set2 _ (w.heap.size + 1) _ _).heap hRV.out (by simp), (only_set2 _ (w.heap.size + 1) _ _).sl ((kept_al V _).sl HS2.out) hin3, hin2, ((Kj.trans KV).trans (kept_al V _)).onl (only_set2 _ (w.heap.size + 1) _ _) (by intro i hi; have := List.mem_singleton.1 hi; omega)⟩
        case measure => simp [intOf]; omega
      · have hge : (n : Int) ≤ j := by omega
        obtain rfl : j = n := by omega
        obtain ⟨r0, r1⟩ := two_cells HRj.out
        have f0 := one_free HRj.out 0
        have f1 := one_free HRj.out 1
        obtain ⟨d0, d1⟩ := two_cells (two_set HRj.out (.slice a' n' c') (.int .i64 (ofI x + j)))
        have hin1 : inB a' [w.heap.size] := by intro y hy hm; exact hin y hy (by simp at hm ⊢; exact .inl hm)
        have hE2 : endOf l = ofI x + j := by rw [HEN.out, HX0.out]
        go_wp2
        refine bodyPost_ret (v := .tuple #[.agg #[.slice a' n' c', .int .i64 (ofI x + j)], .bool true]) (by simp [results, Try.results9, go_sem, d0, d1]) rfl ⟨a', n', c', by rw [hE2], (only_set2 _ w.heap.size _ _).sl HSj.out hin1, Kj.onl (only_set2 _ w.heap.size _ _) (by intro i hi; have := List.mem_singleton.1 hi; omega)⟩
end Go.Proofs.Ytfblkdecbjplbaa
