/- StampOrder: stamps are as words. -/
import Derived.Test.YtdiajdbjlhfkpaaDoorStSmall
import Derived.Test.YtdiajdbjlhfkpaaDoorTy
set_option linter.unusedVariables false
set_option linter.unusedSimpArgs false
namespace Go.Proofs.YtdiajdbjlhfkpaaDoor
open Go.RowKit
set_option maxHeartbeats 2000000 in
theorem stOrder_walk (x y : Int) (w : World) (x0 : 0 ≤ x) (x1 : x ≤ 18446744073709551615) (y0 : 0 ≤ y) (y1 : y ≤ 18446744073709551615) :
    Calls Tryd.prog 4 #[.int .u64 x, .int .u64 y] w fun e w' => e = .returned (.bool true) ∧ Below w.heap.size w w' := by
  have HEx := Lib.hid (stamp_epoch x w x0 x1)
  have HEy := Lib.hid (stamp_epoch y w y0 y1)
  have HOx := Lib.hid (stamp_off x w x0 x1)
  have HOy := Lib.hid (stamp_off y w y0 y1)
  have hcase : (epI x < epI y ∧ x < y) ∨ (epI x = epI y ∧ ofI x < ofI y ∧ x < y) ∨ (epI x = epI y ∧ ¬ ofI x < ofI y ∧ ¬ x < y) ∨ (epI y < epI x ∧ ¬ x < y) := by unfold epI ofI; omega
  have ob : 0 ≤ ofI x ∧ ofI x ≤ 17592186044415 := by unfold ofI; omega
  have hn : (ofI x + 1 ≤ 17592186044415 ∧ epI (x + 1) = epI x ∧ ofI (x + 1) = ofI x + 1 ∧ x + 1 ≤ 18446744073709551615) ∨ ¬ ofI x + 1 ≤ 17592186044415 := by unfold epI ofI; omega
  rcases hn with ⟨n0, n1, n2, n3⟩ | n0
  · have HN := Lib.hid (stamp_next_yes x w x0 x1 n0)
    have HEn := Lib.hid (stamp_epoch (x + 1) w (by omega) n3)
    have HOn := Lib.hid (stamp_off (x + 1) w (by omega) n3)
    rw [n1] at HEn
    rw [n2] at HOn
    have hgt : x < x + 1 := by omega
    have hw : IntKind.i64.wrap (ofI x + 1) = ofI x + 1 := by rw [IntKind.wrap_i64]; omega
    clear n1 n2 n3
    generalize epI x = ex at *
    generalize epI y = ey at *
    generalize ofI x = ox at *
    generalize ofI y = oy at *
    generalize hz : x + 1 = z at *
    clear hz
    rcases hcase with ⟨h1, h2⟩ | ⟨h1, h2, h3⟩ | ⟨h1, h2, h3⟩ | ⟨h1, h2⟩
    all_goals
      first | (have hq : (ex == ey) = true := by simp [h1]) | (have hq : (ex == ey) = false := by simp; omega)
      go_enter Tryd.func4, Tryd.ntmps4
      go_wp2_with (first
        | (go_at_call 10; refine (st_awake _).mono ?_; rintro e w' ⟨rfl, rfl⟩)
        | (go_at_call 12; refine HEx.out.mono ?_; rintro e w' ⟨rfl, rfl⟩)
        | (go_at_call 12; refine HEy.out.mono ?_; rintro e w' ⟨rfl, rfl⟩)
        | (go_at_call 12; refine HEn.out.mono ?_; rintro e w' ⟨rfl, rfl⟩)
        | (go_at_call 13; refine HOx.out.mono ?_; rintro e w' ⟨rfl, rfl⟩)
        | (go_at_call 13; refine HOy.out.mono ?_; rintro e w' ⟨rfl, rfl⟩)
        | (go_at_call 13; refine HOn.out.mono ?_; rintro e w' ⟨rfl, rfl⟩)
        | (go_at_call 14; refine HN.out.mono ?_; rintro e w' ⟨rfl, rfl⟩))
      go_ret
      exact ⟨rfl, Below.refl _ _⟩
  · have HN := Lib.hid (stamp_next_no x w x0 x1 n0)
    generalize epI x = ex at *
    generalize epI y = ey at *
    generalize ofI x = ox at *
    generalize ofI y = oy at *
    rcases hcase with ⟨h1, h2⟩ | ⟨h1, h2, h3⟩ | ⟨h1, h2, h3⟩ | ⟨h1, h2⟩
    all_goals
      first | (have hq : (ex == ey) = true := by simp [h1]) | (have hq : (ex == ey) = false := by simp; omega)
      go_enter Tryd.func4, Tryd.ntmps4
      go_wp2_with (first
        | (go_at_call 10; refine (st_awake _).mono ?_; rintro e w' ⟨rfl, rfl⟩)
        | (go_at_call 12; refine HEx.out.mono ?_; rintro e w' ⟨rfl, rfl⟩)
        | (go_at_call 12; refine HEy.out.mono ?_; rintro e w' ⟨rfl, rfl⟩)
        | (go_at_call 13; refine HOx.out.mono ?_; rintro e w' ⟨rfl, rfl⟩)
        | (go_at_call 13; refine HOy.out.mono ?_; rintro e w' ⟨rfl, rfl⟩)
        | (go_at_call 14; refine HN.out.mono ?_; rintro e w' ⟨rfl, rfl⟩))
      go_ret
      exact ⟨rfl, Below.refl _ _⟩
theorem stampOrder_law (v0 v1 : Value) (x0 x1 : Int) (w : World) (w0 : RepV w (.int .u64) v0 x0) (w1 : RepV w (.int .u64) v1 x1) :
    Calls Tryd.prog 4 #[v0, v1] w fun e w' => e = .returned (.bool true) ∧ Below w.heap.size w w' := by
  obtain ⟨rfl, h0⟩ := repV_int w0
  obtain ⟨rfl, h1⟩ := repV_int w1
  have u0 := wf_bd_u64 h0
  have u1 := wf_bd_u64 h1
  exact stOrder_walk x0 x1 w u0.1 u0.2 u1.1 u1.2
end Go.Proofs.YtdiajdbjlhfkpaaDoor
