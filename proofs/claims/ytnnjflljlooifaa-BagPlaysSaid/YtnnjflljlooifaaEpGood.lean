/- Good: whether a table may be so. -/
import Derived.Test.YtnnjflljlooifaaEpStamp
import Derived.Deep.QuietTactic
set_option linter.unusedVariables false
set_option linter.unusedSimpArgs false
namespace Go.Proofs.Ytnnjflljlooifaa
open Go.RowKit
set_option maxRecDepth 100000 in
set_option maxHeartbeats 2000000 in
theorem ep_good (a : Option Addr) (n c : Nat) (L : List Int) (E : Int) (w : World) (hS : Sl .u64 w a n c L) (hW : IsW L) :
    Calls Try.prog 28 #[.agg #[.slice a n c, .int .i64 E]] w fun e w' => e = .returned (.bool (decide (GoodT L E))) ∧ Kept w w' := by
  have K1 := ((Only.refl [] w).alloc (.cells #[.slice a n c, .int .i64 E] 31)).kept
  have HS1 := Lib.hid (K1.sl hS)
  have hh := heap_alloc_new w (.cells #[.slice a n c, .int .i64 E] 31)
  have D0 := Lib.hid (at_cell hh 0 _ rfl)
  have D1 := Lib.hid (at_cell hh 1 _ rfl)
  have d0 := D0.out
  have hl := hS.1
  have hnc := hS.2.1
  have hcm := hS.2.2.1
  have HW := Lib.hid hW
  unfold maxLen at hcm
  clear hS hh hW
  go_enter Try.func28, Try.ntmps28
  go_wp2_with fail
  clear d0
  generalize World.alloc w _ = W1 at *
  go_loopw [8] (fun i wr => ∃ j : Nat, j ≤ n ∧ i = .int .i64 j ∧ Kept W1 wr ∧ Hid (∀ k, k < j → GoodAt L E k)) (fun i _ => n - (intOf i).toNat)
  case atStart => exact ⟨0, by omega, rfl, Kept.refl _, fun k hk => by omega⟩
  case round =>
    obtain ⟨j, hj, rfl, Kr, HG⟩ := hrel
    have d0 := Kr.cel D0.out
    have d1 := Kr.cel D1.out
    by_cases hlt : j < n
    · have hlt' : (j : Int) < n := by omega
      obtain ⟨b, o, x, rfl, hx, hxv⟩ := (Kr.sl HS1.out).at j hlt
      have hb := HW.out j
      rw [← hxv.out] at hb
      obtain ⟨x0, x1⟩ := hb
      by_cases hA : E ≤ ofI x
      · have hA' : decide (E ≤ ofI x) = true := by simp [hA]
        have hF : decide (GoodT L E) = false := decide_eq_false fun hg => by
          have := (hg.1 j (by omega)).1
          rw [← hxv.out] at this
          omega
        have HF := Lib.hid hF
        clear hxv hA hF HG
        go_wp2_with fail
        go_quiet ((first | (go_at_call 37; exact Calls.quiet_of_same (unflip (stamp_off _ _ (by omega) (by omega)))) | (go_at_call 38; exact Calls.quiet_of_same (unflip (stamp_epoch _ _ (by omega) (by omega))))))
        go_wp2
        go_ret
        exact ⟨ret_bool HF.out.symm, (K1.trans Kr).dr ((Dr.refl _).drewN _)⟩
      · have hA' : decide (E ≤ ofI x) = false := by simp; omega
        by_cases hj0 : j = 0
        · have hz : decide (0 < (j : Int)) = false := by simp; omega
          have hG1 : Hid (∀ k, k < j + 1 → GoodAt L E k) := fun k hk => by
            obtain rfl : k = j := by omega
            refine ⟨?_, fun h => by omega⟩
            rw [← hxv.out]; omega
          have hz' : decide (0 < j) = false := by simp; omega
          clear hxv hA HG hj0
          go_wp2_with fail
          go_quiet ((first | (go_at_call 37; exact Calls.quiet_of_same (unflip (stamp_off _ _ (by omega) (by omega)))) | (go_at_call 38; exact Calls.quiet_of_same (unflip (stamp_epoch _ _ (by omega) (by omega))))))
          go_wp2
          go_roundw
          case rel => exact ⟨j + 1, by omega, by go_num, Kr.dr ((Dr.refl _).drewN _), hG1⟩
          case measure => simp [intOf]; omega
        · obtain ⟨t, rfl⟩ := Nat.exists_eq_succ_of_ne_zero hj0
          have hz : decide (0 < ((t : Int) + 1)) = true := decide_eq_true (by omega)
          have hi : (t : Int) + 1 - 1 = t := by omega
          obtain ⟨b2, o2, y, hab, hy, hyv⟩ := (Kr.sl HS1.out).at t (by omega)
          injection hab with hab
          injection hab with hab1 hab2
          subst hab1 hab2
          have hb := HW.out t
          rw [← hyv.out] at hb
          obtain ⟨y0, y1⟩ := hb
          rw [Nat.succ_eq_add_one] at *
          push_cast at hlt'
          by_cases hB : epI x ≤ epI y
          · have hB' : decide (epI x ≤ epI y) = true := by simp [hB]
            have hF : decide (GoodT L E) = false := decide_eq_false fun hg => by
              have := ((hg.1 (t + 1) (by omega)).2 (by omega)).1
              rw [Nat.add_sub_cancel, ← hxv.out, ← hyv.out] at this
              omega
            have HF := Lib.hid hF
            clear hxv hyv hA hB hF HG
            go_wp2_with fail
            go_quiet ((first | (go_at_call 37; exact Calls.quiet_of_same (unflip (stamp_off _ _ (by omega) (by omega)))) | (go_at_call 38; exact Calls.quiet_of_same (unflip (stamp_epoch _ _ (by omega) (by omega))))))
            go_wp2
            go_ret
            exact ⟨ret_bool HF.out.symm, (K1.trans Kr).dr ((Dr.refl _).drewN _)⟩
          · have hB' : decide (epI x ≤ epI y) = false := by simp; omega
            by_cases hC : ofI x ≤ ofI y
            · have hC' : decide (ofI x ≤ ofI y) = true := by simp [hC]
              have hF : decide (GoodT L E) = false := decide_eq_false fun hg => by
                have := ((hg.1 (t + 1) (by omega)).2 (by omega)).2
                rw [Nat.add_sub_cancel, ← hxv.out, ← hyv.out] at this
                omega
              have HF := Lib.hid hF
              clear hxv hyv hA hB hC hF HG
              go_wp2_with fail
              go_quiet ((first | (go_at_call 37; exact Calls.quiet_of_same (unflip (stamp_off _ _ (by omega) (by omega)))) | (go_at_call 38; exact Calls.quiet_of_same (unflip (stamp_epoch _ _ (by omega) (by omega))))))
              go_wp2
              go_ret
              exact ⟨ret_bool HF.out.symm, (K1.trans Kr).dr ((Dr.refl _).drewN _)⟩
            · have hC' : decide (ofI x ≤ ofI y) = false := by simp; omega
              have hG1 : Hid (∀ k, k < t + 1 + 1 → GoodAt L E k) := fun k hk => by
                by_cases hk' : k < t + 1
                · exact HG.out k hk'
                · obtain rfl : k = t + 1 := by omega
                  refine ⟨?_, fun _ => ?_⟩
                  · rw [← hxv.out]; omega
                  · rw [Nat.add_sub_cancel, ← hxv.out, ← hyv.out]; omega
              clear hxv hyv hA hB hC HG
              go_wp2_with fail
              go_quiet ((first | (go_at_call 37; exact Calls.quiet_of_same (unflip (stamp_off _ _ (by omega) (by omega)))) | (go_at_call 38; exact Calls.quiet_of_same (unflip (stamp_epoch _ _ (by omega) (by omega))))))
              go_wp2
              go_roundw
              case rel => exact ⟨t + 1 + 1, by omega, by go_num, Kr.dr ((Dr.refl _).drewN _), hG1⟩
              case measure => simp [intOf]; omega
    · have hge : (n : Int) ≤ j := by omega
      obtain rfl : j = n := by omega
      have hT : decide (GoodT L E) = (decide (0 ≤ E) && decide (E ≤ 17592186044416)) := by
        by_cases h1 : 0 ≤ E <;> by_cases h2 : E ≤ 17592186044416 <;> simp [GoodT, h1, h2] <;> (intro k hk; exact HG.out k (by omega))
      have HF := Lib.hid hT
      clear HG hT
      by_cases h1 : 0 ≤ E
      · have h1' : decide (0 ≤ E) = true := by simp [h1]
        go_wp2
        go_ret
        exact ⟨ret_bool (by rw [HF.out]; simp [h1]), K1.trans Kr⟩
      · have h1' : decide (0 ≤ E) = false := by simp; omega
        go_wp2
        go_ret
        exact ⟨ret_bool (by rw [HF.out]; simp [h1']), K1.trans Kr⟩
end Go.Proofs.Ytnnjflljlooifaa
