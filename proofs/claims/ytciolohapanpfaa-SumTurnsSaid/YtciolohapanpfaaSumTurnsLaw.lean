/- SumTurns: the law's walk. -/
import Derived.Test.YtciolohapanpfaaSumPartsLaw
set_option linter.unusedVariables false
set_option linter.unusedSimpArgs false
namespace Go.Proofs.Ytciolohapanpfaa
open Go.RowKit
theorem isB_set {zs : List Int} (h : IsB zs) (i : Nat) (v : Int) (hv : 0 ≤ v ∧ v ≤ 255) : IsB (zs.set i v) := isB_of_mem (by
  intro x hx
  rcases List.mem_or_eq_of_mem_set hx with h' | rfl
  · exact isB_mem h x h'
  · exact hv)
set_option maxHeartbeats 1000000 in
theorem sumTurns_yes (a : Option Addr) (n c : Nat) (zs : List Int) (i k : Nat) (w : World) (hS : Sl .u8 w a n c zs) (hB : IsB zs) (hn : n ≤ 3000) (hik : i < k) (hk : k < n) :
    Calls Try.prog 4 #[.slice a n c, .int .i64 i, .int .i64 k] w fun e w' => e = .returned (.bool true) ∧ Below w.heap.size w w' := by
  have HB := Lib.hid hB
  have HS := Lib.hid hS
  have hzl := hS.1
  have hcm := hS.2.2.1
  have hnc := hS.2.1
  unfold maxLen at hcm
  clear hB hS
  obtain ⟨b, o, vi, rfl, hci, hvi⟩ := HS.out.at i (by omega)
  obtain ⟨b', o', vk, he, hck, hvk⟩ := HS.out.at k hk
  injection he with he
  injection he with e1 e2
  subst e1 e2
  have bi := HB.out i
  have bk := HB.out k
  rw [← hvi.out] at bi
  rw [← hvk.out] at bk
  have B1 : IsB (zs.set i vk) := isB_set HB.out i vk bk
  have B2 : IsB ((zs.set i vk).set k vi) := isB_set B1 k vi bi
  have gS := sumOf_good zs
  have gT := sumOf_good (zs.set i vk)
  have h1 := Lib.hid (fun (W : World) (h : Kept w W) => sum_of (some ⟨b, o, none⟩) n c zs W (h.sl HS.out) HB.out)
  have ht1 : turnV (sumOf zs) n i vi vk = sumOf (zs.set i vk) := by rw [← turnV_sumOf zs i vk (by omega), hzl, hvi.out]
  have gk : (zs.set i vk).getD k 0 = vk := by rw [List.getD_eq_getElem?_getD, List.getElem?_set_ne (by omega), hvk.out, List.getD_eq_getElem?_getD]
  have gi : (zs.set i vk).getD i 0 = vk := by rw [List.getD_eq_getElem?_getD, List.getElem?_set_self (by omega)]; rfl
  have ht2 : turnV (sumOf (zs.set i vk)) n k vk vi = sumOf ((zs.set i vk).set k vi) := by
    have := turnV_sumOf (zs.set i vk) k vi (by simp; omega)
    rw [gk, List.length_set, hzl] at this
    exact this
  have hback : (zs.set i vk).set i vi = zs := by
    rw [List.set_set, hvi.out]
    apply List.ext_getElem (by simp)
    intro j q1 q2
    rw [List.getElem_set]
    split
    · subst_vars; simp [List.getD_eq_getElem?_getD, q2]
    · rfl
  have ht3 : turnV (sumOf (zs.set i vk)) n i vk vi = sumOf zs := by
    have := turnV_sumOf (zs.set i vk) i vi (by simp; omega)
    rw [gi, List.length_set, hzl, hback] at this
    exact this
  have h2 := Lib.hid (fun (W : World) => ht1 ▸ unflip (sum_turn_yes (sumOf zs) n i vi vk W gS.2.1 gS.2.2 (by omega) (by omega) (by omega) (by omega) bi.1 bi.2 bk.1 bk.2 gS.1))
  have h3 := Lib.hid (fun (W : World) => ht2 ▸ unflip (sum_turn_yes (sumOf (zs.set i vk)) n k vk vi W gT.2.1 gT.2.2 (by omega) (by omega) (by omega) (by omega) bk.1 bk.2 bi.1 bi.2 gT.1))
  have h4 := Lib.hid (fun (W : World) => ht3 ▸ unflip (sum_turn_yes (sumOf (zs.set i vk)) n i vk vi W gT.2.1 gT.2.2 (by omega) (by omega) (by omega) (by omega) bk.1 bk.2 bi.1 bi.2 gT.1))
  have h5 := Lib.hid (fun (W : World) (a' : Option Addr) (c' : Nat) (h : Sl .u8 W a' n c' ((zs.set i vk).set k vi)) => unflip (sum_of a' n c' ((zs.set i vk).set k vi) W h B2))
  have hTS : (sumOf ((zs.set i vk).set k vi) == sumOf zs) = (vi == vk) := by
    have := sumOf_swap_eq zs i k hik (by omega) (by omega) (by rw [← hvi.out]; exact bi) (by rw [← hvk.out]; exact bk)
    rw [← hvi.out, ← hvk.out] at this
    rw [Bool.eq_iff_iff]; simpa using this
  have HTS := Lib.hid hTS
  clear ht1 ht2 ht3 hback gk gi hTS gT
  generalize sumOf zs = S at *
  generalize sumOf (zs.set i vk) = T at *
  generalize hU : sumOf ((zs.set i vk).set k vi) = U at *
  have HL := Lib.hid hzl
  clear hzl hU
  have ik' : (i : Int) < k := by omega
  have kn' : (k : Int) < n := by omega
  have in' : (i : Int) < n := by omega
  go_enter Try.func4, Try.ntmps4
  go_wp2_with fail
  refine (awake_any _).mono ?_
  rintro e w1 ⟨rfl, k1⟩
  have K1 : Kept w w1 := k1
  clear k1
  go_wp2_with fail
  refine (h1.out _ K1).mono ?_
  rintro e w' ⟨rfl, rfl⟩
  have ci1 := (K1.cell (p := ⟨b, o + i, none⟩) (World.block_lt_of_cell? w _ hci)).trans hci
  have ck1 := (K1.cell (p := ⟨b, o + k, none⟩) (World.block_lt_of_cell? w _ hck)).trans hck
  go_wp2_with fail
  go_quiet ((go_at_call 11; exact Calls.quiet_of_same (h2.out _)))
  have K2 := K1.dr ⟨nq, rfl⟩
  clear ci1 ck1
  generalize w1.drewN nq = w2 at *
  clear nq K1
  have ci1 := (K2.cell (p := ⟨b, o + i, none⟩) (World.block_lt_of_cell? w _ hci)).trans hci
  have ck1 := (K2.cell (p := ⟨b, o + k, none⟩) (World.block_lt_of_cell? w _ hck)).trans hck
  go_wp2_with fail
  go_quiet ((go_at_call 11; exact Calls.quiet_of_same (h3.out _)))
  have K3 := K2.dr ⟨nq, rfl⟩
  clear ci1 ck1
  generalize w2.drewN nq = w3 at *
  clear nq K2
  have ci1 := (K3.cell (p := ⟨b, o + i, none⟩) (World.block_lt_of_cell? w _ hci)).trans hci
  have ck1 := (K3.cell (p := ⟨b, o + k, none⟩) (World.block_lt_of_cell? w _ hck)).trans hck
  go_wp2_with fail
  go_quiet ((go_at_call 11; exact Calls.quiet_of_same (h4.out _)))
  have K4 := K3.dr ⟨nq, rfl⟩
  clear ci1 ck1
  generalize w3.drewN nq = w4 at *
  clear nq K3 h1 h2 h3 h4
  have hS4 := Lib.hid (K4.sl HS.out)
  go_wp2_with (at_builtin; refine wpList_app rfl _ _ 22 22 rfl elemB _ 0 _ _ rfl (app_empty w4 _) _ n _ rfl (src_sl Try.underlying22 (((Only.refl [] w4).alloc _).sl hS4.out (by intro x _; simp))) (by omega) (by unfold maxLen; omega) ?_; intro a' c' g' w5 hA hO hG; simp only [Nat.zero_add, List.nil_append] at hA; have K5 : Kept w w5 := ((K4.only.alloc _).then hO (by intro j hj hm; simp at hm; have := K4.size; omega)).kept; obtain ⟨g, rfl, rfl, hlt, hri, _, hfi, hset⟩ := app_at hA i (by omega); have hg : w.heap.size ≤ g := (by have := K4.size; rcases hG with h | h <;> simp at h <;> omega); have hA5 := Lib.hid hA; rw [Nat.zero_add]; clear hA hO hG hri hset hS4 hfi)
  obtain ⟨g1, e1, _, _, hri, _, hfi, hseti⟩ := app_at hA5.out i (by omega)
  injection e1 with e1
  injection e1 with e1 e2
  subst e1
  obtain ⟨g2, e1, _, _, hrk, _, hfk, _⟩ := app_at hA5.out k (by omega)
  injection e1 with e1
  injection e1 with e1 e2
  subst e1
  have hA6 := hseti (.int .u8 vk)
  rw [← List.map_set] at hA6
  obtain ⟨g3, e1, _, _, _, _, _, hsetk⟩ := app_at hA6 k (by omega)
  injection e1 with e1
  injection e1 with e1 e2
  subst e1
  have hA7 := hsetk (.int .u8 vi)
  rw [← List.map_set] at hA7
  have rci := hri (.int .u8 vi) (by rw [List.getElem?_map, List.getElem?_eq_getElem (by rw [HL.out]; omega), hvi.out]; simp [List.getD_eq_getElem?_getD, List.getElem?_eq_getElem (show i < zs.length by rw [HL.out]; omega)])
  have rck := hrk (.int .u8 vk) (by rw [List.getElem?_map, List.getElem?_eq_getElem (by rw [HL.out]; omega), hvk.out]; simp [List.getD_eq_getElem?_getD, List.getElem?_eq_getElem (show k < zs.length by rw [HL.out]; omega)])
  have hS7 := Lib.hid (app_sl hA7).1
  have K7 : Kept w ((w5.setCell ⟨g, i, none⟩ (.int .u8 vk)).setCell ⟨g, k, none⟩ (.int .u8 vi)) := ((K5.only.setCell (by intro h; simp at h; omega) _).setCell (by intro h; simp at h; omega) _).kept
  clear hri hrk hseti hsetk hA6 hA7 hA5 K4 K5
  have hne : i ≠ k := by omega
  go_region
  generalize World.setCell (World.setCell w5 _ _) _ _ = w6 at *
  have K8 : Kept w w6.drew := K7.dr ⟨1, rfl⟩
  have hS8 := Lib.hid ((Dr.drewN (Dr.refl w6) 1).sl hS7.out)
  have e1 : w6.drewN 1 = w6.drew := rfl
  rw [e1] at hS8
  clear e1 hS7 K7 rci rck hfi hfk
  generalize w6.drew = w7 at *
  have ci1 := (K8.cell (p := ⟨b, o + i, none⟩) (World.block_lt_of_cell? w _ hci)).trans hci
  have ck1 := (K8.cell (p := ⟨b, o + k, none⟩) (World.block_lt_of_cell? w _ hck)).trans hck
  have hTS := HTS.out
  go_wp2_with fail
  go_quiet ((go_at_call 9; exact Calls.quiet_of_same (h5.out _ _ _ (((Dr.refl _).drewN _).sl hS8.out))))
  go_wp2
  go_ret
  exact ⟨rfl, K8.dr ⟨_, rfl⟩⟩
set_option maxHeartbeats 1000000 in
theorem sumTurns_walk (a : Option Addr) (n c : Nat) (zs : List Int) (i k : Int) (w : World) (hS : Sl .u8 w a n c zs) (hB : IsB zs) :
    Calls Try.prog 4 #[.slice a n c, .int .i64 i, .int .i64 k] w fun e w' => e = .returned (.bool true) ∧ Below w.heap.size w w' := by
  have HS := Lib.hid hS
  have hcm := hS.2.2.1
  have hnc := hS.2.1
  unfold maxLen at hcm
  clear hS
  have hcase : (3000 < (n : Int)) ∨ ((n : Int) ≤ 3000 ∧ i < 0) ∨ ((n : Int) ≤ 3000 ∧ 0 ≤ i ∧ k ≤ i) ∨ ((n : Int) ≤ 3000 ∧ 0 ≤ i ∧ i < k ∧ (n : Int) ≤ k) ∨ (n ≤ 3000 ∧ 0 ≤ i ∧ i < k ∧ k < (n : Int)) := by omega
  rcases hcase with h | ⟨h1, h2⟩ | ⟨h1, h2, h3⟩ | ⟨h1, h2, h3, h4⟩ | ⟨h1, h2, h3, h4⟩
  case inr.inr.inr.inr =>
    obtain ⟨x, rfl⟩ := Int.eq_ofNat_of_zero_le h2
    obtain ⟨y, rfl⟩ := Int.eq_ofNat_of_zero_le (show 0 ≤ k by omega)
    exact sumTurns_yes a n c zs x y w HS.out hB h1 (by omega) (by omega)
  all_goals
    go_enter Try.func4, Try.ntmps4
    go_wp2_with (go_at_call 8; refine (awake_any _).mono ?_; rintro e w1 ⟨rfl, K1⟩)
    go_ret
    exact ⟨rfl, K1⟩
end Go.Proofs.Ytciolohapanpfaa
