/- Events: the small functions: fields, word, in; a field's test. -/
import Derived.Test.YteaepgbakcifkaaDoorEvM1
import Derived.Test.YteaepgbakcifkaaDoorEvLay
import Derived.Shelf.Strings.SlTrimAscii
set_option linter.unusedVariables false
set_option linter.unusedSimpArgs false
namespace Go.Proofs.YteaepgbakcifkaaDoor
open Go.RowKit
theorem ev_fields (k : Int) (w : World) : Calls Tryd.prog 17 #[.int .i64 k] w fun e w' => e = .returned (.string ⟨(flds k).toArray⟩) ∧ w = w' := by
  rcases kinds k with rfl | rfl | rfl | rfl | rfl | rfl | rfl | rfl | rfl | h
  case inr.inr.inr.inr.inr.inr.inr.inr.inr =>
    rw [flds_none h]
    obtain ⟨h1, h2, h3, h4, h5, h6, h7, h8, h9⟩ := h
    have h1 := beq_eq_false_iff_ne.2 h1
    have h2 := beq_eq_false_iff_ne.2 h2
    have h3 := beq_eq_false_iff_ne.2 h3
    have h4 := beq_eq_false_iff_ne.2 h4
    have h5 := beq_eq_false_iff_ne.2 h5
    have h6 := beq_eq_false_iff_ne.2 h6
    have h7 := beq_eq_false_iff_ne.2 h7
    have h8 := beq_eq_false_iff_ne.2 h8
    have h9 := beq_eq_false_iff_ne.2 h9
    go_enter Tryd.func17, Tryd.ntmps17
    go_wp2_with fail
    go_ret
    exact ⟨rfl, rfl⟩
  all_goals
    go_enter Tryd.func17, Tryd.ntmps17
    go_wp2_with fail
    go_ret
    exact ⟨by first | rfl | (unfold flds; rfl), rfl⟩
theorem ev_in (n lo hi : Int) (w : World) : Calls Tryd.prog 45 #[.int .i64 n, .int .i64 lo, .int .i64 hi] w fun e w' => e = .returned (.bool (decide (lo ≤ n) && decide (n ≤ hi))) ∧ w = w' := by
  by_cases h : lo ≤ n
  · by_cases h2 : n ≤ hi
    · rw [decide_eq_true h, decide_eq_true h2]
      go_enter Tryd.func45, Tryd.ntmps45
      go_wp2_with fail
      go_ret
      exact ⟨rfl, rfl⟩
    · rw [decide_eq_true h, decide_eq_false h2]
      have h2 : hi < n := by omega
      go_enter Tryd.func45, Tryd.ntmps45
      go_wp2_with fail
      go_ret
      exact ⟨rfl, rfl⟩
  · rw [decide_eq_false h]
    have h2 : n < lo := by omega
    clear h
    go_enter Tryd.func45, Tryd.ntmps45
    go_wp2_with fail
    go_ret
    exact ⟨rfl, rfl⟩
theorem ev_trim (s : ByteArray) (hs : s.size ≤ 9223372036854775807) (w : World) : Calls Tryd.prog 55 #[.string s, .string ⟨alnum.toArray⟩] w fun e w' => e = .returned (.string ⟨(Lib.trimS s.data.toList alnum).toArray⟩) ∧ Kept w w' :=
  (Any.strings_Trim_laid trimL (by kernel_rfl) s ⟨alnum.toArray⟩ w hs (by decide) (ascii_of_all (by decide))).mono fun e w' ⟨he, hw⟩ => ⟨he, hw⟩
theorem ba_size {s : ByteArray} : s.data.toList.length = s.size := rfl
set_option maxRecDepth 100000 in
set_option maxHeartbeats 2000000 in
theorem def_name (s : ByteArray) (w : World) : Calls Tryd.prog 46 #[.string s] w fun e w' => e = .returned (.bool (nameOk s)) ∧ Kept w w' := by
  by_cases h0 : s.size = 0
  · obtain rfl : s = ⟨#[]⟩ := ByteArray.ext (Array.eq_empty_of_size_eq_zero h0)
    go_enter Tryd.func46, Tryd.ntmps46
    go_wp2_with fail
    go_ret
    exact ⟨rfl, by (unfold Kept; repeat (first | exact Below.refl _ _ | assumption | (refine Below.alloc ?_ (by simp) _) | (refine Below.setCell ?_ (by simp) _) | (refine Below.drew ?_) | (refine _root_.Go.below_drewN ?_ _)))⟩
  · have hE : s.toList.isEmpty = false := by
      rw [toList_data]
      cases hl : s.data.toList with
      | nil => have := ba_size (s := s); rw [hl] at this; simp at this; omega
      | cons a l => rfl
    by_cases h16 : s.size ≤ 16
    · have h16' : (s.size : Int) ≤ 16 := by omega
      have HT := Lib.hid (fun W => ev_trim s (by omega) W)
      by_cases ha : s.data.toList.all (alnum.contains ·) = true
      · have hn : nameOk s = true := by unfold nameOk; rw [ha, decide_eq_true (by omega : 0 < s.size), decide_eq_true h16]; rfl
        rw [hn, (trimS_nil _ _).2 ha] at *
        clear ha hn h16 h0
        go_enter Tryd.func46, Tryd.ntmps46
        go_wp2_with fail
        refine (HT.out _).mono ?_
        rintro e V ⟨rfl, hK⟩
        have HK := Lib.hid hK
        clear hK
        go_wp2_with fail
        go_ret
        exact ⟨rfl, HK.out⟩
      · have hn : nameOk s = false := by unfold nameOk; rw [Bool.eq_false_iff.2 ha]; simp
        rw [hn]
        have hne : Lib.trimS s.data.toList alnum ≠ [] := fun e => ha ((trimS_nil _ _).1 e)
        have hE2 : (⟨(Lib.trimS s.data.toList alnum).toArray⟩ : ByteArray).toList.isEmpty = false := by
          rw [toList_data]
          show (Lib.trimS s.data.toList alnum).isEmpty = false
          cases h : Lib.trimS s.data.toList alnum with
          | nil => exact absurd h hne
          | cons a l => rfl
        generalize (⟨(Lib.trimS s.data.toList alnum).toArray⟩ : ByteArray) = T at *
        clear ha hn h16 h0 hne
        go_enter Tryd.func46, Tryd.ntmps46
        go_wp2_with fail
        refine (HT.out _).mono ?_
        rintro e V ⟨rfl, hK⟩
        have HK := Lib.hid hK
        clear hK
        go_wp2_with fail
        go_ret
        exact ⟨rfl, HK.out⟩
    · have h16' : (16 : Int) < s.size := by omega
      have hn : nameOk s = false := by unfold nameOk; rw [decide_eq_false h16]; simp
      rw [hn]
      clear h16 hn h0
      go_enter Tryd.func46, Tryd.ntmps46
      go_wp2_with fail
      go_ret
      exact ⟨rfl, by (unfold Kept; repeat (first | exact Below.refl _ _ | assumption | (refine Below.alloc ?_ (by simp) _) | (refine Below.setCell ?_ (by simp) _) | (refine Below.drew ?_) | (refine _root_.Go.below_drewN ?_ _)))⟩
end Go.Proofs.YteaepgbakcifkaaDoor
