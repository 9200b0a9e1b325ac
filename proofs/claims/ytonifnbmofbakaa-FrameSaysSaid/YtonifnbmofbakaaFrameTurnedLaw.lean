/- FrameTurned: a record of which one byte behind its length is another is none. -/
import Derived.Test.YtonifnbmofbakaaFrMath
import Derived.Test.YtonifnbmofbakaaTy
set_option linter.unusedVariables false
set_option linter.unusedSimpArgs false
namespace Go.Proofs.Ytonifnbmofbakaa
open Go.RowKit
/-- Put onto nil -/
theorem fr_put_nil (a : Option Addr) (n c : Nat) (zs : List Int) (at' : Int) (w : World) (hS : Sl .u8 w a n c zs) (hB : IsB zs) (hn : n ≤ 1024) (a0 : 0 ≤ at') (a1 : at' ≤ 18446744073709551615) :
    Calls Try.prog 10 #[.slice none 0 0, recV at' a n c] w fun e w' => ∃ a' c' g, e = .returned (.tuple #[.slice a' (16 + n) c', .int .i64 0]) ∧ App w' 5 1 (.slice a' (16 + n) c') (16 + n) g (bytesV (recB at' zs)) ∧ Kept w w' ∧ (∀ k, g = some k → w.heap.size ≤ k) := by
  have h := fr_put_ok none 0 0 [] a n c zs at' w (sl_nil _ _) hS hB (by omega) hn a0 a1
  rwa [show 0 + 16 + n = 16 + n by omega, List.nil_append] at h
set_option maxRecDepth 100000 in
set_option maxHeartbeats 2000000 in
theorem frTurned_walk (a : Option Addr) (n c : Nat) (zs : List Int) (at' k t : Int) (w : World) (hS : Sl .u8 w a n c zs) (hB : IsB zs) (a0 : 0 ≤ at') (a1 : at' ≤ 18446744073709551615) (t0 : 0 ≤ t) (t1 : t ≤ 255) :
    Calls Try.prog 3 #[.int .u64 at', .slice a n c, .int .i64 k, .int .u8 t] w fun e w' => e = .returned (.bool true) ∧ Below w.heap.size w w' := by
  have HS := Lib.hid hS
  have HB := Lib.hid hB
  have hnl := hS.1
  clear hS hB
  have hcase : (200 < (n : Int)) ∨ ((n : Int) ≤ 200 ∧ k < 4) ∨ ((n : Int) ≤ 200 ∧ 4 ≤ k ∧ 16 + (n : Int) ≤ k) ∨ ((n : Int) ≤ 200 ∧ 4 ≤ k ∧ k < 16 + (n : Int)) := by omega
  rcases hcase with h | ⟨h1, h2⟩ | ⟨h1, h2, h3⟩ | ⟨h1, h2, h3⟩
  case inl =>
    go_enter Try.func3, Try.ntmps3
    go_wp2_with fail
    refine (fr_awake _).mono ?_
    rintro e w1 ⟨rfl, K1⟩
    go_wp2
    go_ret
    exact ⟨rfl, K1⟩
  case inr.inr.inr =>
    obtain ⟨x, rfl⟩ := Int.eq_ofNat_of_zero_le (show 0 ≤ k by omega)
    have hx : x < 16 + n := by omega
    go_enter Try.func3, Try.ntmps3
    go_wp2_with fail
    refine (fr_awake _).mono ?_
    rintro e w1 ⟨rfl, K1⟩
    have HP := Lib.hid (fr_put_nil a n c zs at' w1 (K1.sl HS.out) HB.out (by omega) a0 a1)
    go_wp2_with fail
    refine HP.out.mono ?_
    rintro e w2 ⟨p, d, g, rfl, hA, K2, hg⟩
    clear HP
    obtain ⟨b, rfl, rfl, hbl, hcell, hsome, hfr, hset⟩ := app_at hA x hx
    have hb : w.heap.size ≤ b := by have := hg b rfl; have := K1.size; omega
    have hrl := recB_len at' zs
    have hxl : x < (recB at' zs).length := by omega
    have hc := hcell (.int .u8 ((recB at' zs).getD x 0)) (by simp [bytesV, List.getElem?_map, List.getD_eq_getElem?_getD, hxl])
    have hA' := hset (.int .u8 t)
    rw [show (bytesV (recB at' zs)).set x (.int .u8 t) = bytesV ((recB at' zs).set x t) by simp [bytesV, List.map_set]] at hA'
    have hSl := Lib.hid (app_sl hA').1
    have hK := Lib.hid ((K1.trans K2).only.setCell (p := ⟨b, x, none⟩) (by intro h; simp at h; omega) (.int .u8 t) : Only [] w _)
    have HB2 : Hid (IsB ((recB at' zs).set x t)) := isB_of_mem (fun y hy => by
      rcases List.mem_or_eq_of_mem_set hy with h | rfl
      · exact isB_mem (isB_recB at' HB.out) y h
      · exact ⟨t0, t1⟩)
    clear hA hA' hset hcell hg
    by_cases hne : (recB at' zs).getD x 0 = t
    · rw [hne] at hc
      clear hSl hK HB2
      go_wp2
      go_ret
      exact ⟨rfl, K1.trans K2⟩
    · obtain ⟨q1, q2⟩ := rec_turned at' zs n x t hnl (by omega) HB.out (by omega) hx ⟨t0, t1⟩ hne
      have hsb : 0 ≤ (recB at' zs).getD x 0 ∧ (recB at' zs).getD x 0 ≤ 255 := isB_recB at' HB.out x
      have hnb : ((recB at' zs).getD x 0 == t) = false := by rw [beq_eq_false_iff_ne]; exact hne
      have HG := Lib.hid (fr_get_form (some ⟨b, 0, none⟩) (16 + n) d n ((recB at' zs).set x t) _ hSl.out HB2.out (by omega) q1 (by omega) (by omega) q2)
      clear q1 q2 hSl HB2 hnl hrl hxl
      generalize (recB at' zs).getD x 0 = v at *
      go_wp2_with fail
      refine HG.out.mono ?_
      rintro e w3 ⟨rfl, K3⟩
      unfold recV
      go_wp2
      go_ret
      exact ⟨rfl, (hK.out.kept.trans K3).trans (kept_al _ _)⟩
  all_goals
    go_enter Try.func3, Try.ntmps3
    go_wp2_with fail
    refine (fr_awake _).mono ?_
    rintro e w1 ⟨rfl, K1⟩
    have HP := Lib.hid (fr_put_nil a n c zs at' w1 (K1.sl HS.out) HB.out (by omega) a0 a1)
    go_wp2_with fail
    refine HP.out.mono ?_
    rintro e w2 ⟨p, d, g, rfl, hA, K2, hg⟩
    clear HP hA hg
    go_wp2
    go_ret
    exact ⟨rfl, K1.trans K2⟩
theorem frameTurned_law (v0 v1 v2 v3 : Value) (x0 : Int) (x1 : List Int) (x2 x3 : Int) (w : World) (w0 : RepV w (.int .u64) v0 x0) (w1 : RepV w (.sl (.int .u8)) v1 x1) (w2 : RepV w (.int .i64) v2 x2) (w3 : RepV w (.int .u8) v3 x3) :
    Calls Try.prog 3 #[v0, v1, v2, v3] w fun e w' => e = .returned (.bool true) ∧ Below w.heap.size w w' := by
  obtain ⟨rfl, h0⟩ := repV_int w0
  obtain ⟨a, n, ca, rfl, h1⟩ := repV_sl w1
  obtain ⟨rfl, h2⟩ := repV_int w2
  obtain ⟨rfl, h3⟩ := repV_int w3
  obtain ⟨s1, b1⟩ := slT_int h1
  have u0 := wf_bd_u64 h0
  have u3 := wf_bd_u8 h3
  exact frTurned_walk a n ca x1 x0 x2 x3 w s1 (isB_of_mem fun x hx => wf_bd_u8 (b1 x hx)) u0.1 u0.2 u3.1 u3.2
end Go.Proofs.Ytonifnbmofbakaa
