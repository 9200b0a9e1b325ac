/- FrameBehind: what stands behind a record does not change how it is read. -/
import Derived.Test.YtonifnbmofbakaaFrameTurnedLaw
set_option linter.unusedVariables false
set_option linter.unusedSimpArgs false
namespace Go.Proofs.Ytonifnbmofbakaa
open Go.RowKit
set_option maxRecDepth 100000 in
set_option maxHeartbeats 2000000 in
theorem frBehind_walk (a : Option Addr) (n c : Nat) (zs : List Int) (a3 : Option Addr) (n3 c3 : Nat) (ys : List Int) (at' : Int) (w : World) (hS : Sl .u8 w a n c zs) (hB : IsB zs) (hS3 : Sl .u8 w a3 n3 c3 ys) (hB3 : IsB ys) (a0 : 0 ≤ at') (a1 : at' ≤ 18446744073709551615) :
    Calls Try.prog 4 #[.int .u64 at', .slice a n c, .slice a3 n3 c3] w fun e w' => e = .returned (.bool true) ∧ Below w.heap.size w w' := by
  have HS := Lib.hid hS
  have HB := Lib.hid hB
  have HS3 := Lib.hid hS3
  have HB3 := Lib.hid hB3
  have hnl := hS.1
  clear hS hB hS3 hB3
  have hcase : (300 < (n : Int)) ∨ ((n : Int) ≤ 300 ∧ 300 < (n3 : Int)) ∨ ((n : Int) ≤ 300 ∧ (n3 : Int) ≤ 300) := by omega
  rcases hcase with h | ⟨h1, h2⟩ | ⟨h1, h2⟩
  case inr.inr =>
    go_enter Try.func4, Try.ntmps4
    go_wp2_with fail
    refine (fr_awake _).mono ?_
    rintro e w1 ⟨rfl, K1⟩
    have HP := Lib.hid (fr_put_nil a n c zs at' w1 (K1.sl HS.out) HB.out (by omega) a0 a1)
    go_wp2_with fail
    refine HP.out.mono ?_
    rintro e w2 ⟨p, d, g, rfl, hA, K2, hg⟩
    clear HP
    have HA := Lib.hid (app_sl hA).1
    have K12 := K1.trans K2
    have HS2 := Lib.hid (K12.sl HS3.out)
    obtain ⟨r1, r2, r3, r4⟩ := rec_ok at' zs ys n hnl (by omega) a0 a1
    have HL := Lib.hid (isB_append (isB_recB at' HB.out) HB3.out)
    clear hA hg
    generalize recB at' zs = L at *
    go_wp2_with (first
      | (at_builtin; refine wpList_app rfl (.tmp 32) (.tmp 33) 23 23 rfl elemB _ 0 _ _ rfl (app_empty w2 _) _ (16 + n) _ rfl (src_sl Try.underlying23 ((kept_al w2 _).sl HA.out)) (by omega) (by unfold maxLen; omega) ?_; intro a5 c5 g5 w5 hA5 hO5 hG5; rw [List.nil_append] at hA5; rw [show 0 + (16 + n) = 16 + n by omega] at hA5 ⊢; have K5 : Kept w2 w5 := ((Kept.refl w2).only.alloc _ |>.then hO5 (by intro i hi hm; simp at hm; omega)).kept; have hg5 : ∀ k, g5 = some k → w2.heap.size ≤ k := (by intro k hk; rcases hG5 with rfl | rfl <;> simp at hk <;> omega); have HA5 := Lib.hid hA5; clear hA5 hO5 hG5)
      | (at_builtin; refine wpList_app rfl (.tmp 34) (.tmp 35) 23 23 rfl elemB _ (16 + n) _ _ rfl HA5.out _ n3 _ rfl (src_sl Try.underlying23 (K5.sl HS2.out)) (by omega) (by unfold maxLen; omega) ?_; intro a6 c6 g6 w6 hA6 hO6 hG6; have K6 : Kept w2 w6 := K5.onl hO6 (by intro i hi; exact hg5 i (by simpa using hi)); have HA6 : Hid (App w6 5 1 (.slice a6 (16 + n + n3) c6) (16 + n + n3) g6 (bytesV (L ++ ys))) := (by unfold Hid; rw [bytesV_append]; exact hA6); clear hA6 hO6 hG6))
    have HG := Lib.hid (fr_get_ok a6 (16 + n + n3) c6 n (L ++ ys) w6 (app_sl HA6.out).1 HL.out (by omega) r1 (by omega) (by omega) r2)
    rw [r3, r4] at HG
    refine HG.out.mono ?_
    rintro e w7 ⟨a7, c7, rfl, hS7, K7⟩
    have b0 := (two_cells (heap_alloc_new w7 (.cells #[.int .u64 at', .slice a7 n c7] 30))).1
    have b1 := (two_cells (heap_alloc_new w7 (.cells #[.int .u64 at', .slice a7 n c7] 30))).2
    have KK := ((K12.trans K6).trans K7).trans (kept_al w7 (.cells #[.int .u64 at', .slice a7 n c7] 30))
    have q1 := run_str (P := Try.prog) 23 9 5 Try.underlying23 Try.underlying5 Try.underlying9 ((kept_al w7 (.cells #[.int .u64 at', .slice a7 n c7] 30)).sl hS7)
    have q2 := run_str (P := Try.prog) 23 9 5 Try.underlying23 Try.underlying5 Try.underlying9 (KK.sl HS.out)
    clear hS7 r1 r2 r3 r4 HG HL HA HS2 hnl
    unfold recV
    go_wp2
    go_ret
    exact ⟨rfl, KK⟩
  all_goals
    go_enter Try.func4, Try.ntmps4
    go_wp2_with fail
    refine (fr_awake _).mono ?_
    rintro e w1 ⟨rfl, K1⟩
    go_wp2
    go_ret
    exact ⟨rfl, K1⟩
theorem frameBehind_law (v0 v1 v2 : Value) (x0 : Int) (x1 x2 : List Int) (w : World) (w0 : RepV w (.int .u64) v0 x0) (w1 : RepV w (.sl (.int .u8)) v1 x1) (w2 : RepV w (.sl (.int .u8)) v2 x2) :
    Calls Try.prog 4 #[v0, v1, v2] w fun e w' => e = .returned (.bool true) ∧ Below w.heap.size w w' := by
  obtain ⟨rfl, h0⟩ := repV_int w0
  obtain ⟨a, n, ca, rfl, h1⟩ := repV_sl w1
  obtain ⟨b, m, cb, rfl, h2⟩ := repV_sl w2
  obtain ⟨s1, b1⟩ := slT_int h1
  obtain ⟨s2, b2⟩ := slT_int h2
  have u0 := wf_bd_u64 h0
  exact frBehind_walk a n ca x1 b m cb x2 x0 w s1 (isB_of_mem fun x hx => wf_bd_u8 (b1 x hx)) s2 (isB_of_mem fun x hx => wf_bd_u8 (b2 x hx)) u0.1 u0.2
end Go.Proofs.Ytonifnbmofbakaa
