/- SumParts: the law's walk. -/
import Derived.Test.YtciolohapanpfaaSumBoth
import Derived.Test.YtciolohapanpfaaBytes
set_option linter.unusedVariables false
set_option linter.unusedSimpArgs false
namespace Go.Proofs.Ytciolohapanpfaa
open Go.RowKit
set_option maxHeartbeats 1000000 in
theorem sumParts_yes (a : Option Addr) (n c : Nat) (zs : List Int) (cut at' : Nat) (to : Int) (w : World) (hS : Sl .u8 w a n c zs) (hB : IsB zs) (hn : n ≤ 3000) (hc : cut ≤ n) (ha : at' < n) (t0 : 0 ≤ to) (t1 : to ≤ 255) :
    Calls Try.prog 7 #[.slice a n c, .int .i64 cut, .int .i64 at', .int .u8 to] w fun e w' => e = .returned (.bool true) ∧ Below w.heap.size w w' := by
  have HB := Lib.hid hB
  have HS := Lib.hid hS
  have hzl := hS.1
  have hcm := hS.2.2.1
  have hnc := hS.2.1
  unfold maxLen at hcm
  clear hB hS
  have gA := sumOf_good (zs.take cut)
  have gB := sumOf_good (zs.drop cut)
  have gS := sumOf_good zs
  have gT := sumOf_good (zs.set at' to)
  have HBs : IsB (zs.set at' to) := isB_of_mem (by
    intro x hx
    rcases List.mem_or_eq_of_mem_set hx with h | rfl
    · exact isB_mem HB.out x h
    · exact ⟨t0, t1⟩)
  have b0 := HB.out at'
  obtain ⟨b, o, v, rfl, hcv, hv⟩ := HS.out.at at' ha
  rw [← hv.out] at b0
  have h1 := Lib.hid (fun (W : World) (h : Kept w W) => sum_of (some ⟨b, o, none⟩) n c zs W (h.sl HS.out) HB.out)
  have h2 := Lib.hid (fun (W : World) (h : Kept w W) => unflip (sum_of (some ⟨b, o, none⟩) cut c (zs.take cut) W (h.sl (sl_take HS.out cut hc)) (isB_take HB.out cut)))
  have hdr : (zs.take n).drop cut = zs.drop cut := by rw [List.take_of_length_le (by omega)]
  have h3 := Lib.hid (fun (W : World) (h : Kept w W) => unflip (sum_of (cutA (some ⟨b, o, none⟩) c cut 1) (n - cut) (c - cut) (zs.drop cut) W (h.sl (hdr ▸ sl_cut HS.out cut n hc (Nat.le_refl _))) (isB_drop HB.out cut)))
  have hj : joinV (sumOf (zs.take cut)) (sumOf (zs.drop cut)) ((n : Int) - cut) = sumOf zs := by
    have := joinV_sumOf (zs.take cut) (zs.drop cut)
    rw [List.take_append_drop, List.length_drop, hzl] at this
    rw [← this]; congr 1; omega
  have h4 := Lib.hid (fun (W : World) => hj ▸ unflip (sum_join_yes (sumOf (zs.take cut)) (sumOf (zs.drop cut)) ((n : Int) - cut) W gA.2.1 gA.2.2 gB.2.1 gB.2.2 (by omega) (by omega) gA.1 gB.1))
  have ho : onV (sumOf (zs.take cut)) (zs.drop cut) = sumOf zs := by rw [onV_sumOf, List.take_append_drop]
  have h5 := Lib.hid (fun (W : World) (h : Kept w W) => ho ▸ unflip (sum_on_yes (sumOf (zs.take cut)) (cutA (some ⟨b, o, none⟩) c cut 1) (n - cut) (c - cut) (zs.drop cut) W gA.2.1 gA.2.2 gA.1 (h.sl (hdr ▸ sl_cut HS.out cut n hc (Nat.le_refl _))) (isB_drop HB.out cut)))
  have htn : turnV (sumOf zs) n at' v to = sumOf (zs.set at' to) := by rw [← turnV_sumOf zs at' to (by omega), hzl, hv.out]
  have h6 := Lib.hid (fun (W : World) => htn ▸ sum_turn_yes (sumOf zs) n at' v to W gS.2.1 gS.2.2 (by omega) (by omega) (by omega) (by omega) b0.1 b0.2 t0 t1 gS.1)
  have h7 := Lib.hid (fun (W : World) (a' : Option Addr) (c' : Nat) (h : Sl .u8 W a' n c' (zs.set at' to)) => sum_of a' n c' (zs.set at' to) W h HBs)
  have h8 := Lib.hid (fun (W : World) => sum_good_yes (sumOf zs) W gS.2.1 gS.2.2 gS.1)
  have hTS : (sumOf (zs.set at' to) == sumOf zs) = (v == to) := by
    have := sumOf_set_eq zs at' to (by omega) (by rw [← hv.out]; exact b0) ⟨t0, t1⟩
    rw [← hv.out] at this
    rw [Bool.eq_iff_iff]; simpa using this
  have HTS := Lib.hid hTS
  clear hj ho htn gA gB hTS hdr
  generalize sumOf zs = S at *
  generalize sumOf (zs.take cut) = A at *
  generalize sumOf (zs.drop cut) = B at *
  have HL := Lib.hid hzl
  clear hzl
  have x1 := fun W => run_cut_h elemB (some ⟨b, o, none⟩) n c .i64 cut (cut : Int) rfl (by omega) W
  have x2 := fun W => run_cut_l elemB (some ⟨b, o, none⟩) n c .i64 cut (cut : Int) rfl hc W
  have x3 : IntKind.i64.wrap ((n : Int) - cut) = (n : Int) - cut := IntWalk.i64_in _ (by omega)
  have ha' : (at' : Int) < n := by omega
  have hc' : (cut : Int) ≤ n := by omega
  go_enter Try.func7, Try.ntmps7
  go_wp2_with fail
  refine (awake_any _).mono ?_
  rintro e w1 ⟨rfl, k1⟩
  have K1 : Kept w w1 := k1
  clear k1
  go_wp2_with fail
  refine (h1.out _ K1).mono ?_
  rintro e w' ⟨rfl, rfl⟩
  go_wp2_with fail
  go_quiet ((first | (go_at_call 9; first | (with_reducible exact Calls.quiet_of_same (h2.out _ (K1.dr ((Dr.refl _).drewN _)))) | (with_reducible exact Calls.quiet_of_same (h3.out _ (K1.dr ((Dr.refl _).drewN _))))) | (go_at_call 10; exact Calls.quiet_of_same (h4.out _))))
  have K2 := K1.dr ⟨nq, rfl⟩
  generalize w1.drewN nq = w2 at *
  clear nq K1
  go_wp2_with fail
  go_quiet ((first | (go_at_call 9; exact Calls.quiet_of_same (h2.out _ (K2.dr ((Dr.refl _).drewN _)))) | (go_at_call 12; exact Calls.quiet_of_same (h5.out _ (K2.dr ((Dr.refl _).drewN _))))))
  have K3 := K2.dr ⟨nq, rfl⟩
  generalize w2.drewN nq = w3 at *
  clear nq K2 h1 h2 h3 h4 h5 x1 x2 x3
  have hS3 := Lib.hid (K3.sl HS.out)
  go_wp2_with (at_builtin; refine wpList_app rfl _ _ 22 22 rfl elemB _ 0 _ _ rfl (app_empty w3 _) _ n _ rfl (src_sl Try.underlying22 (((Only.refl [] w3).alloc _).sl hS3.out (by intro x _; simp))) (by omega) (by unfold maxLen; omega) ?_; intro a' c' g' w4 hA hO hG; simp only [Nat.zero_add, List.nil_append] at hA; obtain ⟨g, rfl, rfl, hlt, _, hsome, hfr, hset⟩ := app_at hA at' (by omega); obtain ⟨u0, hu0⟩ := Option.isSome_iff_exists.1 hsome; clear hsome; have hg : w.heap.size ≤ g := (by have := K3.size; rcases hG with h | h <;> simp at h <;> omega); have K4 : Kept w w4 := ((K3.only.alloc _).then hO (by intro i hi hm; simp at hm; have := K3.size; omega)).kept; have K5 : Kept w (w4.setCell ⟨g, at', none⟩ (.int .u8 to)) := (K4.only.setCell (by intro h; simp at h; omega) _).kept; have q5 := (K5.cell (p := ⟨b, o + at', none⟩) (World.block_lt_of_cell? w _ hcv)).trans hcv; have hA5 := Lib.hid (hset (.int .u8 to)); rw [Nat.zero_add]; clear hA hO hG hset hS3)
  refine (h6.out _).mono ?_
  rintro e w' ⟨rfl, rfl⟩
  generalize sumOf (zs.set at' to) = T at *
  have hS5 : Sl .u8 (w4.setCell ⟨g, at', none⟩ (.int .u8 to)) (some ⟨g, 0, none⟩) n c' (zs.set at' to) := by
    have := hA5.out
    rw [← List.map_set] at this
    exact (app_sl this).1
  have h9 := Lib.hid (h7.out _ _ _ hS5)
  clear h7 h6 hS5 hA5 hfr hu0
  generalize w4.setCell _ _ = w5 at *
  go_wp2_with fail
  refine h9.out.mono ?_
  clear h9
  rintro e w' ⟨rfl, rfl⟩
  have hTS := HTS.out
  go_wp2_with fail
  refine (h8.out _).mono ?_
  rintro e w' ⟨rfl, rfl⟩
  go_wp2
  go_ret
  exact ⟨rfl, K5⟩
set_option maxHeartbeats 1000000 in
theorem sumParts_walk (a : Option Addr) (n c : Nat) (zs : List Int) (cut at' to : Int) (w : World) (hS : Sl .u8 w a n c zs) (hB : IsB zs) (t0 : 0 ≤ to) (t1 : to ≤ 255) :
    Calls Try.prog 7 #[.slice a n c, .int .i64 cut, .int .i64 at', .int .u8 to] w fun e w' => e = .returned (.bool true) ∧ Below w.heap.size w w' := by
  have HS := Lib.hid hS
  have hcm := hS.2.2.1
  have hnc := hS.2.1
  unfold maxLen at hcm
  clear hS
  have hcase : (3000 < (n : Int)) ∨ ((n : Int) ≤ 3000 ∧ cut < 0) ∨ ((n : Int) ≤ 3000 ∧ 0 ≤ cut ∧ (n : Int) < cut) ∨ ((n : Int) ≤ 3000 ∧ 0 ≤ cut ∧ cut ≤ n ∧ at' < 0) ∨ ((n : Int) ≤ 3000 ∧ 0 ≤ cut ∧ cut ≤ n ∧ 0 ≤ at' ∧ (n : Int) ≤ at') ∨ (n ≤ 3000 ∧ 0 ≤ cut ∧ cut ≤ n ∧ 0 ≤ at' ∧ at' < (n : Int)) := by omega
  rcases hcase with h | ⟨h1, h2⟩ | ⟨h1, h2, h3⟩ | ⟨h1, h2, h3, h4⟩ | ⟨h1, h2, h3, h4, h5⟩ | ⟨h1, h2, h3, h4, h5⟩
  case inr.inr.inr.inr.inr =>
    obtain ⟨x, rfl⟩ := Int.eq_ofNat_of_zero_le h2
    obtain ⟨y, rfl⟩ := Int.eq_ofNat_of_zero_le h4
    exact sumParts_yes a n c zs x y to w HS.out hB h1 (by omega) (by omega) t0 t1
  all_goals
    go_enter Try.func7, Try.ntmps7
    go_wp2_with (go_at_call 8; refine (awake_any _).mono ?_; rintro e w1 ⟨rfl, K1⟩)
    go_ret
    exact ⟨rfl, K1⟩
end Go.Proofs.Ytciolohapanpfaa
