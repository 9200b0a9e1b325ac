/- FrameAll: all that is told of the first part is told of the whole. -/
import Derived.Test.YtonifnbmofbakaaFrAllMath
import Derived.Test.YtonifnbmofbakaaFrameTurnedLaw
set_option linter.unusedVariables false
set_option linter.unusedSimpArgs false
namespace Go.Proofs.Ytonifnbmofbakaa
open Go.RowKit
set_option maxRecDepth 100000 in
set_option maxHeartbeats 4000000 in
theorem frAll_walk (a : Option Addr) (n c : Nat) (zs : List Int) (a3 : Option Addr) (n3 c3 : Nat) (ys : List Int) (w : World) (hS : Sl .u8 w a n c zs) (hB : IsB zs) (hS3 : Sl .u8 w a3 n3 c3 ys) (hB3 : IsB ys) :
    Calls Try.prog 8 #[.slice a n c, .slice a3 n3 c3] w fun e w' => e = .returned (.bool true) ∧ Below w.heap.size w w' := by
  have HS := Lib.hid hS
  have HB := Lib.hid hB
  have HS3 := Lib.hid hS3
  have HB3 := Lib.hid hB3
  have hnl := hS.1
  clear hS hB hS3 hB3
  have hcase : (800 < (n : Int)) ∨ ((n : Int) ≤ 800 ∧ 800 < (n3 : Int)) ∨ ((n : Int) ≤ 800 ∧ (n3 : Int) ≤ 800) := by omega
  rcases hcase with h | ⟨h1, h2⟩ | ⟨h1, h2⟩
  case inr.inr =>
    go_enter Try.func8, Try.ntmps8
    go_wp2_with fail
    refine (fr_awake _).mono ?_
    rintro e w1 ⟨rfl, K1⟩
    have HA1 := Lib.hid (fr_all a n c zs w1 (K1.sl HS.out) HB.out (by omega))
    go_wp2_with fail
    refine HA1.out.mono ?_
    rintro e w2 ⟨k, L, nn, er, pa, pc, rfl, hRd, hSt, hSl, K2⟩
    clear HA1
    have HRd := Lib.hid hRd
    have HSt := Lib.hid hSt
    have HSl := Lib.hid hSl
    have K12 := K1.trans K2
    clear hRd hSt hSl
    have HSa := Lib.hid (K12.sl HS.out)
    have HSb := Lib.hid (K12.sl HS3.out)
    go_wp2_with (first
      | (at_builtin; refine wpList_app rfl (.tmp 29) (.tmp 30) 23 23 rfl elemB _ 0 _ _ rfl (app_empty w2 _) _ n _ rfl (src_sl Try.underlying23 ((kept_al w2 _).sl HSa.out)) (by omega) (by unfold maxLen; omega) ?_; intro a5 c5 g5 w5 hA5 hO5 hG5; rw [List.nil_append] at hA5; rw [show 0 + n = n by omega] at hA5 ⊢; have K5 : Kept w2 w5 := ((Kept.refl w2).only.alloc _ |>.then hO5 (by intro i hi hm; simp at hm; omega)).kept; have hg5 : ∀ k, g5 = some k → w2.heap.size ≤ k := (by intro k hk; rcases hG5 with rfl | rfl <;> simp at hk <;> omega); have HA5 := Lib.hid hA5; clear hA5 hO5 hG5)
      | (at_builtin; refine wpList_app rfl (.tmp 31) (.tmp 32) 23 23 rfl elemB _ n _ _ rfl HA5.out _ n3 _ rfl (src_sl Try.underlying23 (K5.sl HSb.out)) (by omega) (by unfold maxLen; omega) ?_; intro a6 c6 g6 w6 hA6 hO6 hG6; have K6 : Kept w2 w6 := K5.onl hO6 (by intro i hi; exact hg5 i (by simpa using hi)); have HA6 : Hid (App w6 5 1 (.slice a6 (n + n3) c6) (n + n3) g6 (bytesV (zs ++ ys))) := (by unfold Hid; rw [bytesV_append]; exact hA6); clear hA6 hO6 hG6))
    have HA2 := Lib.hid (fr_all a6 (n + n3) c6 (zs ++ ys) w6 (app_sl HA6.out).1 (isB_append HB.out HB3.out) (by omega))
    refine HA2.out.mono ?_
    rintro e w7 ⟨k2, L2, n2, er2, qa, qc, rfl, hRd2, hSt2, hSl2, K7⟩
    clear HA2
    obtain ⟨hk, hn, hL⟩ := all_more HB.out HB3.out HRd.out hRd2 hSt2
    obtain ⟨he, hle, hz⟩ := stop_err HB.out HSt.out
    rw [hnl] at hle hz
    have HL := Lib.hid hL
    have KK := K12.trans (K6.trans K7)
    have K27 := K6.trans K7
    have HSlx := Lib.hid (HSl.out.kept K27)
    have HSly := Lib.hid hSl2
    obtain ⟨hLl, hkc, hkm, hSlxx⟩ := HSlx.out
    have hL2l := hSl2.1
    have hk2c := hSl2.2.1
    have hk2m := hSl2.2.2.1
    unfold maxLen at hkm hk2m
    clear hL hRd2 hSt2 hSl2 HSl HSa HSb HA5 HA6 K5 hg5
    have b1 : decide ((k2 : Int) < k) = false := decide_eq_false (by omega)
    have b2 : decide ((n2 : Int) < nn) = false := decide_eq_false (by omega)
    have b3 : (er != 6) = true := by rcases he with rfl | rfl | rfl | rfl <;> rfl
    have b4 : decide ((nn : Int) ≤ n) = true := decide_eq_true (by omega)
    have hd : (er = 0 ∧ ((nn : Int) != n) = false) ∨ (er == 0) = false := by
      by_cases h : er = 0
      · exact .inl ⟨h, by rw [hz h]; simp⟩
      · exact .inr (by simp [h])
    clear hz he
    rcases hd with ⟨rfl, b6⟩ | b6
    all_goals
      clear hSlxx
      go_wp2_with fail
      go_loopw [11] (fun i wr => ∃ (j : Nat), i = .int .i64 j ∧ j ≤ k ∧ Kept w7 wr) (fun i _ => k - (intOf i).toNat)
      case atStart => exact ⟨0, rfl, by omega, Kept.refl _⟩
      case round =>
        obtain ⟨j, rfl, hj, Kj⟩ := hrel
        by_cases hlt : j < k
        · have hlt' : (j : Int) < k := by omega
          have hlt2 : (j : Int) < k2 := by omega
          obtain ⟨⟨ax, px⟩, hxl⟩ : ∃ l, L[j]? = some l := ⟨_, List.getElem?_eq_getElem (by omega)⟩
          have hx2 : L2[j]? = some (ax, px) := by
            have h := hxl
            rw [HL.out, List.getElem?_take, if_pos hlt] at h
            exact h
          obtain ⟨b, o, x, m, d, rfl, e0, e1, e2⟩ := (HSlx.out.kept Kj).2.2.2 j _ hxl
          obtain ⟨b', o', x', m', d', rfl, e0', e1', e2'⟩ := (HSly.out.kept Kj).2.2.2 j _ hx2
          have q1 := fun m => run_strN (P := Try.prog) 23 9 5 Try.underlying23 Try.underlying5 Try.underlying9 e2 m
          have q2 := fun m => run_strN (P := Try.prog) 23 9 5 Try.underlying23 Try.underlying5 Try.underlying9 e2' m
          clear e2 e2' hxl hx2
          dsimp only at e0 e0' q1 q2
          have tv : ((strOf px).toList == (strOf px).toList) = true := str_eq _
          go_wp2_with fail
          have hax : (ax != ax) = false := by simp
          have htv : ((strOf px).toList != (strOf px).toList) = false := by simp
          go_quiet (fail)
          go_wp2
          go_roundw
          case rel => exact ⟨j + 1, by go_num, by omega, Kj.dr ⟨_, rfl⟩⟩
          case measure => simp [intOf]; omega
        · have hge : (k : Int) ≤ j := by omega
          obtain rfl : j = k := by omega
          go_wp2
          go_ret
          exact ⟨rfl, KK.trans Kj⟩
  all_goals
    go_enter Try.func8, Try.ntmps8
    go_wp2_with fail
    refine (fr_awake _).mono ?_
    rintro e w1 ⟨rfl, K1⟩
    go_wp2
    go_ret
    exact ⟨rfl, K1⟩
theorem frameAll_law (v0 v1 : Value) (x0 x1 : List Int) (w : World) (w0 : RepV w (.sl (.int .u8)) v0 x0) (w1 : RepV w (.sl (.int .u8)) v1 x1) :
    Calls Try.prog 8 #[v0, v1] w fun e w' => e = .returned (.bool true) ∧ Below w.heap.size w w' := by
  obtain ⟨a, n, ca, rfl, h1⟩ := repV_sl w0
  obtain ⟨b, m, cb, rfl, h2⟩ := repV_sl w1
  obtain ⟨s1, b1⟩ := slT_int h1
  obtain ⟨s2, b2⟩ := slT_int h2
  exact frAll_walk a n ca x0 b m cb x1 w s1 (isB_of_mem fun x hx => wf_bd_u8 (b1 x hx)) s2 (isB_of_mem fun x hx => wf_bd_u8 (b2 x hx))
end Go.Proofs.Ytonifnbmofbakaa
