/- Events: a field's test, only. -/
import Derived.Test.YteaepgbakcifkaaDoorEv1
import Derived.Lib.OthersKept
set_option linter.unusedVariables false
set_option linter.unusedSimpArgs false
namespace Go.Proofs.YteaepgbakcifkaaDoor
open Go.RowKit
/-- an event as a value; its cells -/
abbrev evV (e : EV) : Value := .agg #[.int .i64 e.k, .int .i64 e.r, .int .i64 e.t, .int .i64 e.y, .int .i64 e.n, .string e.nm, .string e.ky, .string e.dt]
abbrev evO (e : EV) : Obj := .cells #[.int .i64 e.k, .int .i64 e.r, .int .i64 e.t, .int .i64 e.y, .int .i64 e.n, .string e.nm, .string e.ky, .string e.dt] 24 (0, 0)
set_option maxRecDepth 100000 in
set_option maxHeartbeats 4000000 in
theorem ev_goodf (e : EV) (c : Nat) (w : World) : Calls Tryd.prog 21 #[evV e, .int .i32 (c : Nat)] w fun E w' => E = .returned (.bool (okF e c)) ∧ Kept w w' := by
  have HI := Lib.hid (fun n lo hi W => ev_in n lo hi W)
  by_cases h1 : c = 82
  · subst h1
    rw [show okF e 82 = (decide (1 ≤ e.r) && decide (e.r ≤ 64)) from rfl]
    go_enter Tryd.func21, Tryd.ntmps21
    go_wp2_with fail
    refine (HI.out _ _ _ _).mono ?_
    rintro E V ⟨rfl, rfl⟩
    go_wp2_with fail
    go_ret
    exact ⟨rfl, by (unfold Kept; repeat (first | exact Below.refl _ _ | assumption | (refine Below.alloc ?_ (by simp) _) | (refine Below.setCell ?_ (by simp) _) | (refine Below.drew ?_) | (refine _root_.Go.below_drewN ?_ _)))⟩
  have b1 : (((c : Nat) : Int) == 82) = false := by rw [beq_eq_false_iff_ne]; omega
  by_cases h2 : c = 84
  · subst h2
    rw [show okF e 84 = (decide (0 ≤ e.t) && decide (e.t ≤ 15)) from rfl]
    clear h1 b1
    go_enter Tryd.func21, Tryd.ntmps21
    go_wp2_with fail
    refine (HI.out _ _ _ _).mono ?_
    rintro E V ⟨rfl, rfl⟩
    go_wp2_with fail
    go_ret
    exact ⟨rfl, by (unfold Kept; repeat (first | exact Below.refl _ _ | assumption | (refine Below.alloc ?_ (by simp) _) | (refine Below.setCell ?_ (by simp) _) | (refine Below.drew ?_) | (refine _root_.Go.below_drewN ?_ _)))⟩
  have b2 : (((c : Nat) : Int) == 84) = false := by rw [beq_eq_false_iff_ne]; omega
  by_cases h3 : c = 89
  · subst h3
    rw [show okF e 89 = (decide (1 ≤ e.y) && decide (e.y ≤ 9)) from rfl]
    clear h1 b1 h2 b2
    go_enter Tryd.func21, Tryd.ntmps21
    go_wp2_with fail
    refine (HI.out _ _ _ _).mono ?_
    rintro E V ⟨rfl, rfl⟩
    go_wp2_with fail
    go_ret
    exact ⟨rfl, by (unfold Kept; repeat (first | exact Below.refl _ _ | assumption | (refine Below.alloc ?_ (by simp) _) | (refine Below.setCell ?_ (by simp) _) | (refine Below.drew ?_) | (refine _root_.Go.below_drewN ?_ _)))⟩
  have b3 : (((c : Nat) : Int) == 89) = false := by rw [beq_eq_false_iff_ne]; omega
  by_cases h4 : c = 78
  · subst h4
    clear h1 b1 h2 b2 h3 b3
    rw [show okF e 78 = (decide (1 ≤ e.n) && decide (e.n ≤ if e.k = 9 then 1048575 else 1099511627776)) from rfl]
    by_cases k9 : e.k = 9
    · rw [if_pos k9]
      have k9b := beq_iff_eq.2 k9
      clear k9
      by_cases n1 : 1 ≤ e.n
      · rw [decide_eq_true n1]
        go_enter Tryd.func21, Tryd.ntmps21
        go_wp2_with fail
        go_ret
        exact ⟨rfl, by (unfold Kept; repeat (first | exact Below.refl _ _ | assumption | (refine Below.alloc ?_ (by simp) _) | (refine Below.setCell ?_ (by simp) _) | (refine Below.drew ?_) | (refine _root_.Go.below_drewN ?_ _)))⟩
      · rw [decide_eq_false n1]
        have n3 := Int.not_le.1 n1
        clear n1
        go_enter Tryd.func21, Tryd.ntmps21
        go_wp2_with fail
        go_ret
        exact ⟨rfl, by (unfold Kept; repeat (first | exact Below.refl _ _ | assumption | (refine Below.alloc ?_ (by simp) _) | (refine Below.setCell ?_ (by simp) _) | (refine Below.drew ?_) | (refine _root_.Go.below_drewN ?_ _)))⟩
    · rw [if_neg k9]
      have k9b := beq_eq_false_iff_ne.2 k9
      clear k9
      by_cases n1 : 1 ≤ e.n
      · rw [decide_eq_true n1]
        go_enter Tryd.func21, Tryd.ntmps21
        go_wp2_with fail
        go_ret
        exact ⟨rfl, by (unfold Kept; repeat (first | exact Below.refl _ _ | assumption | (refine Below.alloc ?_ (by simp) _) | (refine Below.setCell ?_ (by simp) _) | (refine Below.drew ?_) | (refine _root_.Go.below_drewN ?_ _)))⟩
      · rw [decide_eq_false n1]
        have n3 := Int.not_le.1 n1
        clear n1
        go_enter Tryd.func21, Tryd.ntmps21
        go_wp2_with fail
        go_ret
        exact ⟨rfl, by (unfold Kept; repeat (first | exact Below.refl _ _ | assumption | (refine Below.alloc ?_ (by simp) _) | (refine Below.setCell ?_ (by simp) _) | (refine Below.drew ?_) | (refine _root_.Go.below_drewN ?_ _)))⟩
  have b4 : (((c : Nat) : Int) == 78) = false := by rw [beq_eq_false_iff_ne]; omega
  by_cases h5 : c = 77
  · subst h5
    clear h1 b1 h2 b2 h3 b3 h4 b4
    have HN := Lib.hid (fun W => def_name e.nm W)
    rw [show okF e 77 = nameOk e.nm from rfl]
    go_enter Tryd.func21, Tryd.ntmps21
    go_wp2_with fail
    refine (HN.out _).mono ?_
    rintro E V ⟨rfl, hK⟩
    have HK := Lib.hid hK
    clear hK
    go_wp2_with fail
    go_ret
    exact ⟨rfl, Kept.trans (by (unfold Kept; repeat (first | exact Below.refl _ _ | assumption | (refine Below.alloc ?_ (by simp) _) | (refine Below.setCell ?_ (by simp) _) | (refine Below.drew ?_) | (refine _root_.Go.below_drewN ?_ _)))) HK.out⟩
  have b5 : (((c : Nat) : Int) == 77) = false := by rw [beq_eq_false_iff_ne]; omega
  by_cases h6 : c = 75
  · subst h6
    clear h1 b1 h2 b2 h3 b3 h4 b4 h5 b5
    rw [show okF e 75 = decide ((e.ky.size : Int) ≤ 16) from rfl]
    go_enter Tryd.func21, Tryd.ntmps21
    go_wp2_with fail
    go_ret
    exact ⟨rfl, by (unfold Kept; repeat (first | exact Below.refl _ _ | assumption | (refine Below.alloc ?_ (by simp) _) | (refine Below.setCell ?_ (by simp) _) | (refine Below.drew ?_) | (refine _root_.Go.below_drewN ?_ _)))⟩
  have b6 : (((c : Nat) : Int) == 75) = false := by rw [beq_eq_false_iff_ne]; omega
  by_cases k1 : e.k = 1
  · have hv : okF e c = decide ((e.dt.size : Int) ≤ 900) := by
      unfold okF; rw [if_neg h1, if_neg h2, if_neg h3, if_neg h4, if_neg h5, if_neg h6, if_pos k1]
    rw [hv]
    have k1b := beq_iff_eq.2 k1
    clear h1 h2 h3 h4 h5 h6 k1 hv
    go_enter Tryd.func21, Tryd.ntmps21
    go_wp2_with fail
    go_ret
    exact ⟨rfl, by (unfold Kept; repeat (first | exact Below.refl _ _ | assumption | (refine Below.alloc ?_ (by simp) _) | (refine Below.setCell ?_ (by simp) _) | (refine Below.drew ?_) | (refine _root_.Go.below_drewN ?_ _)))⟩
  · have hv : okF e c = decide ((e.dt.size : Int) ≤ 64) := by
      unfold okF; rw [if_neg h1, if_neg h2, if_neg h3, if_neg h4, if_neg h5, if_neg h6, if_neg k1]
    rw [hv]
    have k1b := beq_eq_false_iff_ne.2 k1
    clear h1 h2 h3 h4 h5 h6 k1 hv
    go_enter Tryd.func21, Tryd.ntmps21
    go_wp2_with fail
    go_ret
    exact ⟨rfl, by (unfold Kept; repeat (first | exact Below.refl _ _ | assumption | (refine Below.alloc ?_ (by simp) _) | (refine Below.setCell ?_ (by simp) _) | (refine Below.drew ?_) | (refine _root_.Go.below_drewN ?_ _)))⟩
end Go.Proofs.YteaepgbakcifkaaDoor
