/- SumJoins: the law's walk. -/
import Derived.Test.YtciolohapanpfaaSumBoth
import Derived.Test.YtciolohapanpfaaBytes
set_option linter.unusedVariables false
set_option linter.unusedSimpArgs false
namespace Go.Proofs.Ytciolohapanpfaa
open Go.RowKit
set_option maxHeartbeats 1000000 in
theorem sumJoins_yes (a b c : Option Addr) (n m k ca cb cc : Nat) (A B C : List Int) (w : World) (hA : Sl .u8 w a n ca A) (hB : Sl .u8 w b m cb B) (hC : Sl .u8 w c k cc C) (bA : IsB A) (bB : IsB B) (bC : IsB C) (hn : n ≤ 1000) (hm : m ≤ 1000) (hk : k ≤ 1000) :
    Calls Try.prog 3 #[.slice a n ca, .slice b m cb, .slice c k cc] w fun e w' => e = .returned (.bool true) ∧ Below w.heap.size w w' := by
  have HA := Lib.hid hA
  have HB := Lib.hid hB
  have HC := Lib.hid hC
  have lB := hB.1
  have lC := hC.1
  clear hA hB hC
  have BA := Lib.hid bA
  have BB := Lib.hid bB
  have BC := Lib.hid bC
  have gA := sumOf_good A
  have gB := sumOf_good B
  have gC := sumOf_good C
  have gAB := sumOf_good (A ++ B)
  have gBC := sumOf_good (B ++ C)
  have h1 := Lib.hid (fun (W : World) (h : Kept w W) => sum_of a n ca A W (h.sl HA.out) BA.out)
  have h2 := Lib.hid (fun (W : World) (h : Kept w W) => sum_of b m cb B W (h.sl HB.out) BB.out)
  have h3 := Lib.hid (fun (W : World) (h : Kept w W) => sum_of c k cc C W (h.sl HC.out) BC.out)
  have j1 : joinV (sumOf A) (sumOf B) m = sumOf (A ++ B) := by rw [← lB]; exact joinV_sumOf A B
  have j2 : joinV (sumOf B) (sumOf C) k = sumOf (B ++ C) := by rw [← lC]; exact joinV_sumOf B C
  have j3 : joinV (sumOf (A ++ B)) (sumOf C) k = sumOf (A ++ B ++ C) := by rw [← lC]; exact joinV_sumOf (A ++ B) C
  have j4 : joinV (sumOf A) (sumOf (B ++ C)) ((m : Int) + k) = sumOf (A ++ B ++ C) := by
    have := joinV_sumOf A (B ++ C)
    rw [List.length_append, lB, lC, ← List.append_assoc] at this
    rw [← this]; congr 1
  have h4 := Lib.hid (fun (W : World) => j1 ▸ sum_join_yes (sumOf A) (sumOf B) m W gA.2.1 gA.2.2 gB.2.1 gB.2.2 (by omega) (by omega) gA.1 gB.1)
  have h5 := Lib.hid (fun (W : World) => j2 ▸ sum_join_yes (sumOf B) (sumOf C) k W gB.2.1 gB.2.2 gC.2.1 gC.2.2 (by omega) (by omega) gB.1 gC.1)
  have h6 := Lib.hid (fun (W : World) => j3 ▸ sum_join_yes (sumOf (A ++ B)) (sumOf C) k W gAB.2.1 gAB.2.2 gC.2.1 gC.2.2 (by omega) (by omega) gAB.1 gC.1)
  have h7 := Lib.hid (fun (W : World) => j4 ▸ sum_join_yes (sumOf A) (sumOf (B ++ C)) ((m : Int) + k) W gA.2.1 gA.2.2 gBC.2.1 gBC.2.2 (by omega) (by omega) gA.1 gBC.1)
  have h8 := Lib.hid (fun (W : World) (a' : Option Addr) (c' : Nat) (h : Sl .u8 W a' (n + m + k) c' (A ++ B ++ C)) => sum_of a' (n + m + k) c' (A ++ B ++ C) W h (isB_append (isB_append BA.out BB.out) BC.out))
  clear j1 j2 j3 j4 gA gB gC gAB gBC lB lC bA bB bC
  generalize sumOf A = x at *
  generalize sumOf B = y at *
  generalize sumOf C = z at *
  generalize sumOf (A ++ B) = ab at *
  generalize sumOf (B ++ C) = bc at *
  generalize hall : sumOf (A ++ B ++ C) = all at *
  clear hall
  go_enter Try.func3, Try.ntmps3
  go_wp2_with fail
  refine (awake_any _).mono ?_
  rintro e w1 ⟨rfl, k1⟩
  have K1 : Kept w w1 := k1
  clear k1
  go_wp2_with fail
  refine (h1.out _ K1).mono ?_
  rintro e w' ⟨rfl, rfl⟩
  go_wp2_with fail
  refine (h2.out _ K1).mono ?_
  rintro e w' ⟨rfl, rfl⟩
  go_wp2_with fail
  refine (h3.out _ K1).mono ?_
  rintro e w' ⟨rfl, rfl⟩
  go_wp2_with fail
  refine (h4.out _).mono ?_
  rintro e w' ⟨rfl, rfl⟩
  go_wp2_with fail
  refine (h5.out _).mono ?_
  rintro e w' ⟨rfl, rfl⟩
  go_wp2_with fail
  refine (h6.out _).mono ?_
  rintro e w' ⟨rfl, rfl⟩
  go_wp2_with fail
  refine (h7.out _).mono ?_
  rintro e w' ⟨rfl, rfl⟩
  clear h1 h2 h3 h4 h5 h6 h7
  have sA := Lib.hid (K1.sl HA.out)
  have hz : ∀ i, i ∈ (some w1.heap.size).toList → w.heap.size ≤ i := by intro i hi; simp at hi; have := K1.size; omega
  go_wp2_with (first
    | (at_builtin; refine wpList_app rfl (.tmp 75) (.tmp 76) 22 22 rfl elemB _ 0 _ _ rfl (app_empty w1 _) _ n _ rfl (src_sl Try.underlying22 (((Only.refl [] w1).alloc _).sl sA.out (by intro x _; simp))) (by omega) (by unfold maxLen; omega) ?_; intro a2 c2 g2 w2 hA2 hO2 hG2; simp only [Nat.zero_add, List.nil_append] at hA2; have K2 : Kept w w2 := ((K1.only.alloc _).then hO2 (by intro i hi hm; have := hz i hm; omega)).kept; have hz2 : ∀ i, i ∈ g2.toList → w.heap.size ≤ i := (by intro i hi; have := K1.size; rcases hG2 with rfl | rfl <;> simp at hi <;> omega); have sB := Lib.hid (K2.sl HB.out); rw [Nat.zero_add]; clear hO2 hG2)
    | (at_builtin; refine wpList_app rfl (.tmp 77) (.tmp 78) 22 22 rfl elemB _ n _ _ rfl hA2 _ m _ rfl (src_sl Try.underlying22 sB.out) (by omega) (by unfold maxLen; omega) ?_; intro a3 c3 g3 w3 hA3 hO3 hG3; have K3 : Kept w w3 := K2.onl hO3 hz2; have hz3 : ∀ i, i ∈ g3.toList → w.heap.size ≤ i := (by intro i hi; rcases hG3 with rfl | rfl; exact hz2 i hi; have := K2.size; simp at hi; omega); have sC := Lib.hid (K3.sl HC.out); clear hO3 hG3)
    | (at_builtin; refine wpList_app rfl (.tmp 79) (.tmp 80) 22 22 rfl elemB _ (n + m) _ _ rfl hA3 _ k _ rfl (src_sl Try.underlying22 sC.out) (by omega) (by unfold maxLen; omega) ?_; intro a4 c4 g4 w4 hA4 hO4 hG4; have K4 : Kept w w4 := K3.onl hO4 hz3; clear hO4 hG4))
  rw [← List.map_append, ← List.map_append] at hA4
  refine (h8.out _ _ _ (app_sl hA4).1).mono ?_
  rintro e w' ⟨rfl, rfl⟩
  go_wp2
  go_ret
  exact ⟨rfl, K4⟩
set_option maxHeartbeats 1000000 in
theorem sumJoins_walk (a b c : Option Addr) (n m k ca cb cc : Nat) (A B C : List Int) (w : World) (hA : Sl .u8 w a n ca A) (hB : Sl .u8 w b m cb B) (hC : Sl .u8 w c k cc C) (bA : IsB A) (bB : IsB B) (bC : IsB C) :
    Calls Try.prog 3 #[.slice a n ca, .slice b m cb, .slice c k cc] w fun e w' => e = .returned (.bool true) ∧ Below w.heap.size w w' := by
  have hcase : (1000 < (n : Int)) ∨ ((n : Int) ≤ 1000 ∧ 1000 < (m : Int)) ∨ ((n : Int) ≤ 1000 ∧ (m : Int) ≤ 1000 ∧ 1000 < (k : Int)) ∨ (n ≤ 1000 ∧ m ≤ 1000 ∧ k ≤ 1000) := by omega
  rcases hcase with h | ⟨h1, h2⟩ | ⟨h1, h2, h3⟩ | ⟨h1, h2, h3⟩
  case inr.inr.inr => exact sumJoins_yes a b c n m k ca cb cc A B C w hA hB hC bA bB bC h1 h2 h3
  all_goals
    clear hA hB hC bA bB bC
    go_enter Try.func3, Try.ntmps3
    go_wp2_with (go_at_call 8; refine (awake_any _).mono ?_; rintro e w1 ⟨rfl, K1⟩)
    go_ret
    exact ⟨rfl, K1⟩
end Go.Proofs.Ytciolohapanpfaa
