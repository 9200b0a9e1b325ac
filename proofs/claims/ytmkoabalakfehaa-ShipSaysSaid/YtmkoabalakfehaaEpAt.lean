/- At: the epoch of a record. -/
import Derived.Test.YtmkoabalakfehaaEpGood
import Derived.Deep.RegionHeld3
set_option linter.unusedVariables false
set_option linter.unusedSimpArgs false
namespace Go.Proofs.Ytmkoabalakfehaa
open Go.RowKit
/-- the epoch told by the first j, of which the last one at off or before counts -/
def atF (L : List Int) (off : Int) : Nat → Int
  | 0 => 0
  | j + 1 => if ofI (L.getD j 0) ≤ off then epI (L.getD j 0) else atF L off j
def atI (L : List Int) (E off : Int) : Int × Bool := if GoodT L E ∧ firstI L E ≤ off ∧ off < E then (atF L off L.length, true) else (0, false)
set_option maxRecDepth 100000 in
set_option maxHeartbeats 2000000 in
theorem ep_tell (a : Option Addr) (n c : Nat) (L : List Int) (E off : Int) (w : World) (hS : Sl .u64 w a n c L) (hW : IsW L) :
    Calls Try.prog 27 #[.agg #[.slice a n c, .int .i64 E], .int .i64 off] w fun e w' => e = .returned (.tuple #[.int .i64 (atI L E off).1, .bool (atI L E off).2]) ∧ Kept w w' := by
  have K1 := ((Only.refl [] w).alloc (.cells #[.slice a n c, .int .i64 E] 24)).kept
  have HS := Lib.hid hS
  have hh := heap_alloc_new w (.cells #[.slice a n c, .int .i64 E] 24)
  have D0 := Lib.hid (at_cell hh 0 _ rfl)
  have D1 := Lib.hid (at_cell hh 1 _ rfl)
  have hl := hS.1
  have hnc := hS.2.1
  have hcm := hS.2.2.1
  have HW := Lib.hid hW
  unfold maxLen at hcm
  have d0 := D0.out
  have d1 := D1.out
  clear hS hh hW
  by_cases hg : GoodT L E
  · have hgd : Hid (decide (GoodT L E) = true) := decide_eq_true hg
    by_cases h1 : firstI L E ≤ off
    · have h1' : decide (off < firstI L E) = false := decide_eq_false (by omega)
      by_cases h2 : off < E
      · have h2' : decide (E ≤ off) = false := decide_eq_false (by omega)
        have HI : Hid (atI L E off = (atF L off L.length, true)) := if_pos ⟨hg, h1, h2⟩
        clear hg h1 h2
        go_enter Try.func27, Try.ntmps27
        go_wp2_with fail
        clear d0 d1
        generalize World.alloc w _ = W1 at *
        refine (ep_good a n c L E W1 (K1.sl HS.out) HW.out).mono ?_
        rintro e V1 ⟨rfl, J1⟩
        rw [hgd.out]
        have d0 := J1.cel D0.out
        have d1 := J1.cel D1.out
        go_wp2_with fail
        clear d0 d1
        refine (tbl_first a n c L E V1 ((K1.trans J1).sl HS.out) HW.out).mono ?_
        rintro e V2 ⟨rfl, J2⟩
        have K2 := J1.trans J2
        have d0 := K2.cel D0.out
        have d1 := K2.cel D1.out
        clear J1 J2
        go_wp2_with fail
        clear d0 d1
        go_loopw [6, 27] (fun ep i wr => ∃ j : Nat, j ≤ n ∧ i = .int .i64 j ∧ Kept W1 wr ∧ ep = .int .i64 (atF L off j)) (fun _ i _ => n - (intOf i).toNat)
        case atStart => exact ⟨0, by omega, rfl, K2, rfl⟩
        case round =>
          obtain ⟨j, hj, rfl, Kr, rfl⟩ := hrel
          by_cases hlt : j < n
          · have hlt' : (j : Int) < n := by omega
            obtain ⟨b, o, x, rfl, hx, hxv⟩ := ((K1.trans Kr).sl HS.out).at j hlt
            have hb := HW.out j
            rw [← hxv.out] at hb
            obtain ⟨x0, x1⟩ := hb
            by_cases hq : ofI x ≤ off
            · have hq' : decide (ofI x ≤ off) = true := decide_eq_true hq
              have HF : Hid (atF L off (j + 1) = epI x) := by unfold Hid; rw [atF, ← hxv.out, if_pos hq]
              clear hxv hq
              go_wp2_with (first | (go_at_call 28; refine (stamp_off _ _ (by omega) (by omega)).mono ?_; rintro e V' ⟨rfl, rfl⟩) | (go_at_call 29; refine (stamp_epoch _ _ (by omega) (by omega)).mono ?_; rintro e V' ⟨rfl, rfl⟩))
              go_roundw
              case rel => exact ⟨j + 1, by omega, by go_num, Kr, by rw [HF.out]⟩
              case measure => simp [intOf]; omega
            · have hq' : decide (ofI x ≤ off) = false := decide_eq_false hq
              have HF : Hid (atF L off (j + 1) = atF L off j) := by unfold Hid; rw [atF, ← hxv.out, if_neg hq]
              clear hxv hq
              go_wp2_with (first | (go_at_call 28; refine (stamp_off _ _ (by omega) (by omega)).mono ?_; rintro e V' ⟨rfl, rfl⟩) | (go_at_call 29; refine (stamp_epoch _ _ (by omega) (by omega)).mono ?_; rintro e V' ⟨rfl, rfl⟩))
              go_roundw
              case rel => exact ⟨j + 1, by omega, by go_num, Kr, by rw [HF.out]⟩
              case measure => simp [intOf]; omega
          · have hge : (n : Int) ≤ j := by omega
            obtain rfl : j = n := by omega
            have HF : Hid (atF L off L.length = atF L off j) := by unfold Hid; rw [hl]
            go_wp2
            exact bodyPost_ret (v := .tuple #[.int .i64 (atF L off j), .bool true]) (by simp [results, Try.results27, go_sem]) rfl ⟨by rw [HI.out, HF.out], K1.trans Kr⟩
      · have h2' : decide (E ≤ off) = true := decide_eq_true (by omega)
        have HI : Hid (atI L E off = (0, false)) := if_neg (fun h => h2 h.2.2)
        clear hg h1 h2
        go_enter Try.func27, Try.ntmps27
        go_wp2_with fail
        clear d0 d1
        generalize World.alloc w _ = W1 at *
        refine (ep_good a n c L E W1 (K1.sl HS.out) HW.out).mono ?_
        rintro e V1 ⟨rfl, J1⟩
        rw [hgd.out]
        have d0 := J1.cel D0.out
        have d1 := J1.cel D1.out
        go_wp2_with fail
        clear d0 d1
        refine (tbl_first a n c L E V1 ((K1.trans J1).sl HS.out) HW.out).mono ?_
        rintro e V2 ⟨rfl, J2⟩
        have K2 := J1.trans J2
        have d0 := K2.cel D0.out
        have d1 := K2.cel D1.out
        go_wp2
        exact bodyPost_ret (v := .tuple #[.int .i64 0, .bool false]) (by simp [results, Try.results27, go_sem]) rfl ⟨by rw [HI.out], K1.trans K2⟩
    · have h1' : decide (off < firstI L E) = true := decide_eq_true (by omega)
      have HI : Hid (atI L E off = (0, false)) := if_neg (fun h => h1 h.2.1)
      clear hg h1
      go_enter Try.func27, Try.ntmps27
      go_wp2_with fail
      clear d0 d1
      generalize World.alloc w _ = W1 at *
      refine (ep_good a n c L E W1 (K1.sl HS.out) HW.out).mono ?_
      rintro e V1 ⟨rfl, J1⟩
      rw [hgd.out]
      have d0 := J1.cel D0.out
      have d1 := J1.cel D1.out
      go_wp2_with fail
      clear d0 d1
      refine (tbl_first a n c L E V1 ((K1.trans J1).sl HS.out) HW.out).mono ?_
      rintro e V2 ⟨rfl, J2⟩
      go_wp2
      exact bodyPost_ret (v := .tuple #[.int .i64 0, .bool false]) (by simp [results, Try.results27, go_sem]) rfl ⟨by rw [HI.out], K1.trans (J1.trans J2)⟩
  · have hgd : Hid (decide (GoodT L E) = false) := decide_eq_false hg
    have HI : Hid (atI L E off = (0, false)) := if_neg (fun h => hg h.1)
    clear hg
    go_enter Try.func27, Try.ntmps27
    go_wp2_with fail
    clear d0 d1
    generalize World.alloc w _ = W1 at *
    refine (ep_good a n c L E W1 (K1.sl HS.out) HW.out).mono ?_
    rintro e V1 ⟨rfl, J1⟩
    rw [hgd.out]
    go_wp2
    exact bodyPost_ret (v := .tuple #[.int .i64 0, .bool false]) (by simp [results, Try.results27, go_sem]) rfl ⟨by rw [HI.out], K1.trans J1⟩
end Go.Proofs.Ytmkoabalakfehaa
