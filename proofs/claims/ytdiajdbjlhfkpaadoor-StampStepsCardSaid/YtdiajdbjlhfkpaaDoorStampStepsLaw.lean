/- StampSteps: as many steps on, the place is as many on, and the epoch as it was. -/
import Derived.Test.YtdiajdbjlhfkpaaDoorStSmall
import Derived.Test.YtdiajdbjlhfkpaaDoorTy
set_option linter.unusedVariables false
set_option linter.unusedSimpArgs false
namespace Go.Proofs.YtdiajdbjlhfkpaaDoor
open Go.RowKit
set_option maxHeartbeats 2000000 in
theorem stSteps_walk (e o n : Int) (w : World) :
    Calls Tryd.prog 5 #[.int .i64 e, .int .i64 o, .int .i64 n] w fun E w' => E = .returned (.bool true) ∧ Below w.heap.size w w' := by
  by_cases hno : e < 0 ∨ 1048575 < e ∨ o < 0 ∨ 17592186044415 < o
  · have HP := Lib.hid (stamp_pack_no e o w hno)
    clear hno
    go_enter Tryd.func5, Tryd.ntmps5
    go_wp2_with fail
    refine (st_awake _).mono ?_
    rintro E w' ⟨rfl, rfl⟩
    go_wp2_with fail
    refine HP.out.mono ?_
    rintro E w' ⟨rfl, rfl⟩
    go_wp2
    go_ret
    exact ⟨rfl, Below.refl _ _⟩
  · have b0 : 0 ≤ e ∧ e ≤ 1048575 ∧ 0 ≤ o ∧ o ≤ 17592186044415 := by omega
    obtain ⟨e0, e1, o0, o1⟩ := b0
    have HP := Lib.hid (stamp_pack_yes e o w e0 e1 o0 o1)
    have hcase : n < 0 ∨ (0 ≤ n ∧ 100 < n) ∨ (0 ≤ n ∧ n ≤ 100 ∧ 17592186044216 < o) ∨ (0 ≤ n ∧ n ≤ 100 ∧ o ≤ 17592186044216 ∧ 1048376 < e) ∨ (0 ≤ n ∧ n ≤ 100 ∧ o ≤ 17592186044216 ∧ e ≤ 1048376) := by omega
    clear hno
    rcases hcase with h | ⟨h1, h2⟩ | ⟨h1, h2, h3⟩ | ⟨h1, h2, h3, h4⟩ | ⟨h1, h2, h3, h4⟩
    case inr.inr.inr.inr =>
      obtain ⟨m, rfl⟩ := Int.eq_ofNat_of_zero_le h1
      generalize hs : e * 17592186044416 + o = s at *
      have Hs := Lib.hid hs
      clear hs
      go_enter Tryd.func5, Tryd.ntmps5
      go_wp2_with fail
      refine (st_awake _).mono ?_
      rintro E w' ⟨rfl, rfl⟩
      go_wp2_with fail
      refine HP.out.mono ?_
      rintro E w' ⟨rfl, rfl⟩
      go_wp2_with fail
      go_loopw [9, 10, 11] (fun t u i wr => ∃ (j : Nat) (a b : Int), t = .int .u64 a ∧ u = .int .u64 b ∧ i = .int .i64 j ∧ j ≤ m ∧ Hid (a = s + j) ∧ Hid (b = s + j * 17592186044416) ∧ w = wr) (fun _ _ i _ => m - (intOf i).toNat)
      case atStart => exact ⟨0, s, s, rfl, rfl, rfl, by omega, (by unfold Hid; omega), (by unfold Hid; omega), (by first | trivial | rfl)⟩
      case round =>
        obtain ⟨j, a, b, rfl, rfl, rfl, hj, Ha, Hb, rfl⟩ := hrel
        have hep : Hid (epI a = e ∧ ofI a = o + j ∧ epI b = e + j ∧ ofI b = o ∧ 0 ≤ a ∧ a ≤ 18446744073709551615 ∧ 0 ≤ b ∧ b ≤ 18446744073709551615) := by
          unfold Hid epI ofI
          have h5 := Ha.out
          have h6 := Hb.out
          have h7 := Hs.out
          omega
        obtain ⟨p1, p2, p3, p4, p5, p6, p7, p8⟩ := hep.out
        by_cases hlt : j < m
        · have hlt' : (j : Int) < m := by omega
          have HN := Lib.hid (stamp_next_yes a w p5 p6 (by omega))
          have HU := Lib.hid (stamp_up_yes b w p7 p8 (by omega))
          clear p1 p2 p3 p4
          go_wp2_with fail
          refine HN.out.mono ?_
          rintro E w' ⟨rfl, rfl⟩
          go_wp2_with fail
          refine HU.out.mono ?_
          rintro E w' ⟨rfl, rfl⟩
          go_wp2
          go_roundw
          case rel => exact ⟨j + 1, a + 1, b + 17592186044416, rfl, rfl, by go_num, by omega, (by unfold Hid; rw [Ha.out]; omega), (by unfold Hid; rw [Hb.out]; omega), (by first | trivial | rfl)⟩
          case measure => simp [intOf]; omega
        · have hge : (m : Int) ≤ j := by omega
          obtain rfl : j = m := by omega
          have q1 := Lib.hid (stamp_epoch a w p5 p6)
          have q2 := Lib.hid (stamp_off a w p5 p6)
          have q3 := Lib.hid (stamp_epoch b w p7 p8)
          have q4 := Lib.hid (stamp_off b w p7 p8)
          rw [p1] at q1
          rw [p2] at q2
          rw [p3] at q3
          rw [p4] at q4
          clear p1 p2 p3 p4
          have w1 : IntKind.i64.wrap (o + (j : Int)) = o + j := by rw [IntKind.wrap_i64]; omega
          have w2 : IntKind.i64.wrap (e + (j : Int)) = e + j := by rw [IntKind.wrap_i64]; omega
          go_wp2_with fail
          refine q1.out.mono ?_
          rintro E w' ⟨rfl, rfl⟩
          go_wp2_with fail
          refine q2.out.mono ?_
          rintro E w' ⟨rfl, rfl⟩
          go_wp2_with fail
          refine q3.out.mono ?_
          rintro E w' ⟨rfl, rfl⟩
          go_wp2_with fail
          refine q4.out.mono ?_
          rintro E w' ⟨rfl, rfl⟩
          go_wp2
          go_ret
          exact ⟨rfl, Below.refl _ _⟩
    all_goals
      go_enter Tryd.func5, Tryd.ntmps5
      go_wp2_with fail
      refine (st_awake _).mono ?_
      rintro E w' ⟨rfl, rfl⟩
      go_wp2_with fail
      refine HP.out.mono ?_
      rintro E w' ⟨rfl, rfl⟩
      go_wp2
      go_ret
      exact ⟨rfl, Below.refl _ _⟩
theorem stampSteps_law (v0 v1 v2 : Value) (x0 x1 x2 : Int) (w : World) (w0 : RepV w (.int .i64) v0 x0) (w1 : RepV w (.int .i64) v1 x1) (w2 : RepV w (.int .i64) v2 x2) :
    Calls Tryd.prog 5 #[v0, v1, v2] w fun e w' => e = .returned (.bool true) ∧ Below w.heap.size w w' := by
  obtain ⟨rfl, h0⟩ := repV_int w0
  obtain ⟨rfl, h1⟩ := repV_int w1
  obtain ⟨rfl, h2⟩ := repV_int w2
  exact stSteps_walk x0 x1 x2 w
end Go.Proofs.YtdiajdbjlhfkpaaDoor
