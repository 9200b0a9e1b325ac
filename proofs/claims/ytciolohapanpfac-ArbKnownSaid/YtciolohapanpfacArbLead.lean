/- The walks of arb's plain functions and of the document's own. -/
import Derived.Test.YtciolohapanpfacArbMath
set_option linter.unusedVariables false
set_option linter.unusedSimpArgs false
namespace Go.Proofs.Ytciolohapanpfac
open Go.RowKit
theorem node_yes (who : Int) (h : who = 0 ∨ who = 1) (w : World) : Calls Try.prog 20 #[.int .i64 who] w fun e w' => e = .returned (.bool true) ∧ w = w' := by
  rcases h with rfl | rfl
  · go_enter Try.func20, Try.ntmps20
    go_wp2
    go_ret
    exact ⟨rfl, rfl⟩
  · go_enter Try.func20, Try.ntmps20
    go_wp2
    go_ret
    exact ⟨rfl, rfl⟩
theorem node_no (who : Int) (h : who ≠ 0 ∧ who ≠ 1) (w : World) : Calls Try.prog 20 #[.int .i64 who] w fun e w' => e = .returned (.bool false) ∧ w = w' := by
  obtain ⟨h0, h1⟩ := h
  have b0 : (who == 0) = false := by simpa using h0
  have b1 : (who == 1) = false := by simpa using h1
  go_enter Try.func20, Try.ntmps20
  go_wp2
  go_ret
  exact ⟨rfl, rfl⟩
theorem neq_of {a b : Int} (h : a ≠ b) : (a != b) = true ∧ (a == b) = false := by simp [h]
theorem eq_of {a b : Int} (h : a = b) : (a != b) = false ∧ (a == b) = true := by simp [h]
set_option maxHeartbeats 1000000 in
theorem arb_lead (x : AS) (who : Int) (w : World) : Calls Try.prog 11 #[x.v, .int .i64 who] w fun e w' => e = .returned (pairV (leadF x who)) ∧ Kept w w' := by
  rcases lead_cases x who with ⟨h1, hr⟩ | ⟨h1, h2, h3, hr⟩ | ⟨h1, h2, h3, hr⟩ | ⟨h1, h2, h3, hr⟩ | ⟨h1, h2, h3, h4, hr⟩ <;> rw [hr] <;> have HN := Lib.hid h1 <;> clear h1 hr <;> obtain ⟨e, h, s, f⟩ := x <;> dsimp only [AS.v, pairV, AS.zero] at *
  · go_enter Try.func11, Try.ntmps11
    go_wp2_with (go_at_call 20; refine (node_no _ HN.out _).mono ?_; rintro e w1 ⟨rfl, rfl⟩)
    exact bodyPost_ret (v := .tuple #[.agg #[.int .i64 0, .int .i64 0, .bool false, .int .i64 0], .bool false]) (by simp [results, Try.results11, go_sem]) rfl ⟨rfl, by (unfold Kept; repeat (first | exact Below.refl _ _ | assumption | (refine Below.alloc ?_ (by simp) _) | (refine Below.setCell ?_ (by simp) _) | (refine Below.drew ?_) | (refine below_drewN ?_ _)))⟩
  · subst h2
    obtain ⟨b0, b1⟩ := neq_of h3
    clear h3
    go_enter Try.func11, Try.ntmps11
    go_wp2_with (go_at_call 20; refine (node_yes _ HN.out _).mono ?_; rintro e w1 ⟨rfl, rfl⟩)
    exact bodyPost_ret (v := .tuple #[.agg #[.int .i64 0, .int .i64 0, .bool false, .int .i64 0], .bool false]) (by simp [results, Try.results11, go_sem]) rfl ⟨rfl, by (unfold Kept; repeat (first | exact Below.refl _ _ | assumption | (refine Below.alloc ?_ (by simp) _) | (refine Below.setCell ?_ (by simp) _) | (refine Below.drew ?_) | (refine below_drewN ?_ _)))⟩
  · cases s
    · clear h2
      go_enter Try.func11, Try.ntmps11
      go_wp2_with (go_at_call 20; refine (node_yes _ HN.out _).mono ?_; rintro e w1 ⟨rfl, rfl⟩)
      exact bodyPost_ret (v := .tuple #[.agg #[.int .i64 0, .int .i64 0, .bool false, .int .i64 0], .bool false]) (by simp [results, Try.results11, go_sem]) rfl ⟨rfl, by (unfold Kept; repeat (first | exact Below.refl _ _ | assumption | (refine Below.alloc ?_ (by simp) _) | (refine Below.setCell ?_ (by simp) _) | (refine Below.drew ?_) | (refine below_drewN ?_ _)))⟩
    · obtain rfl : who = h := by simpa using h2
      clear h2
      have b0 : (who != who) = false := by simp
      go_enter Try.func11, Try.ntmps11
      go_wp2_with (go_at_call 20; refine (node_yes _ HN.out _).mono ?_; rintro e w1 ⟨rfl, rfl⟩)
      exact bodyPost_ret (v := .tuple #[.agg #[.int .i64 0, .int .i64 0, .bool false, .int .i64 0], .bool false]) (by simp [results, Try.results11, go_sem]) rfl ⟨rfl, by (unfold Kept; repeat (first | exact Below.refl _ _ | assumption | (refine Below.alloc ?_ (by simp) _) | (refine Below.setCell ?_ (by simp) _) | (refine Below.drew ?_) | (refine below_drewN ?_ _)))⟩
  · cases s
    · clear h2
      go_enter Try.func11, Try.ntmps11
      go_wp2_with (go_at_call 20; refine (node_yes _ HN.out _).mono ?_; rintro e w1 ⟨rfl, rfl⟩)
      exact bodyPost_ret (v := .tuple #[.agg #[.int .i64 0, .int .i64 0, .bool false, .int .i64 0], .bool false]) (by simp [results, Try.results11, go_sem]) rfl ⟨rfl, by (unfold Kept; repeat (first | exact Below.refl _ _ | assumption | (refine Below.alloc ?_ (by simp) _) | (refine Below.setCell ?_ (by simp) _) | (refine Below.drew ?_) | (refine below_drewN ?_ _)))⟩
    · obtain rfl : who = h := by simpa using h2
      clear h2
      have b0 : (who != who) = false := by simp
      go_enter Try.func11, Try.ntmps11
      go_wp2_with (go_at_call 20; refine (node_yes _ HN.out _).mono ?_; rintro e w1 ⟨rfl, rfl⟩)
      exact bodyPost_ret (v := .tuple #[.agg #[.int .i64 0, .int .i64 0, .bool false, .int .i64 0], .bool false]) (by simp [results, Try.results11, go_sem]) rfl ⟨rfl, by (unfold Kept; repeat (first | exact Below.refl _ _ | assumption | (refine Below.alloc ?_ (by simp) _) | (refine Below.setCell ?_ (by simp) _) | (refine Below.drew ?_) | (refine below_drewN ?_ _)))⟩
  · cases s
    · clear h2
      go_enter Try.func11, Try.ntmps11
      go_wp2_with (go_at_call 20; refine (node_yes _ HN.out _).mono ?_; rintro e w1 ⟨rfl, rfl⟩)
      exact bodyPost_ret (v := .tuple #[.agg #[.int .i64 (e + 1), .int .i64 who, .bool false, .int .i64 f], .bool true]) (by simp [results, Try.results11, go_sem]) rfl ⟨rfl, by (unfold Kept; repeat (first | exact Below.refl _ _ | assumption | (refine Below.alloc ?_ (by simp) _) | (refine Below.setCell ?_ (by simp) _) | (refine Below.drew ?_) | (refine below_drewN ?_ _)))⟩
    · obtain rfl : who = h := by simpa using h2
      clear h2
      have b0 : (who != who) = false := by simp
      go_enter Try.func11, Try.ntmps11
      go_wp2_with (go_at_call 20; refine (node_yes _ HN.out _).mono ?_; rintro e w1 ⟨rfl, rfl⟩)
      exact bodyPost_ret (v := .tuple #[.agg #[.int .i64 (e + 1), .int .i64 who, .bool true, .int .i64 f], .bool true]) (by simp [results, Try.results11, go_sem]) rfl ⟨rfl, by (unfold Kept; repeat (first | exact Below.refl _ _ | assumption | (refine Below.alloc ?_ (by simp) _) | (refine Below.setCell ?_ (by simp) _) | (refine Below.drew ?_) | (refine below_drewN ?_ _)))⟩
set_option maxHeartbeats 1000000 in
theorem arb_turn (x : AS) (who ep fl : Int) (solo : Bool) (w : World) : Calls Try.prog 22 #[x.v, .int .i64 who, .int .i64 ep, .int .i64 fl, .bool solo] w fun e w' => e = .returned (pairV (turnF x who ep fl solo)) ∧ Kept w w' := by
  rcases turn_cases x who ep fl solo with ⟨h1, hr⟩ | ⟨h1, h2, hr⟩ | ⟨h1, h2, h3, hr⟩ | ⟨h1, h2, h3, h4, hr⟩ | ⟨h1, h2, h3, h4, h5, hr⟩ | ⟨h1, h2, h3, h4, h5, hr⟩ <;> rw [hr] <;> have HN := Lib.hid h1 <;> clear h1 hr <;> obtain ⟨e, h, s, f⟩ := x <;> dsimp only [AS.v, pairV, AS.zero] at *
  · go_enter Try.func22, Try.ntmps22
    go_wp2_with (go_at_call 20; refine (node_no _ HN.out _).mono ?_; rintro e w1 ⟨rfl, rfl⟩)
    exact bodyPost_ret (v := .tuple #[.agg #[.int .i64 0, .int .i64 0, .bool false, .int .i64 0], .bool false]) (by simp [results, Try.results22, go_sem]) rfl ⟨rfl, by (unfold Kept; repeat (first | exact Below.refl _ _ | assumption | (refine Below.alloc ?_ (by simp) _) | (refine Below.setCell ?_ (by simp) _) | (refine Below.drew ?_) | (refine below_drewN ?_ _)))⟩
  · obtain ⟨b0, b1⟩ := neq_of h2
    clear h2
    go_enter Try.func22, Try.ntmps22
    go_wp2_with (go_at_call 20; refine (node_yes _ HN.out _).mono ?_; rintro e w1 ⟨rfl, rfl⟩)
    exact bodyPost_ret (v := .tuple #[.agg #[.int .i64 0, .int .i64 0, .bool false, .int .i64 0], .bool false]) (by simp [results, Try.results22, go_sem]) rfl ⟨rfl, by (unfold Kept; repeat (first | exact Below.refl _ _ | assumption | (refine Below.alloc ?_ (by simp) _) | (refine Below.setCell ?_ (by simp) _) | (refine Below.drew ?_) | (refine below_drewN ?_ _)))⟩
  · obtain ⟨b0, b1⟩ := neq_of h3
    subst h2
    have b2 : (who != who) = false := by simp
    clear h3
    go_enter Try.func22, Try.ntmps22
    go_wp2_with (go_at_call 20; refine (node_yes _ HN.out _).mono ?_; rintro e w1 ⟨rfl, rfl⟩)
    exact bodyPost_ret (v := .tuple #[.agg #[.int .i64 0, .int .i64 0, .bool false, .int .i64 0], .bool false]) (by simp [results, Try.results22, go_sem]) rfl ⟨rfl, by (unfold Kept; repeat (first | exact Below.refl _ _ | assumption | (refine Below.alloc ?_ (by simp) _) | (refine Below.setCell ?_ (by simp) _) | (refine Below.drew ?_) | (refine below_drewN ?_ _)))⟩
  · subst h2 h3 h4
    have b2 : (who != who) = false := by simp
    have b3 : (ep != ep) = false := by simp
    have b4 : (s == s) = true := by simp
    go_enter Try.func22, Try.ntmps22
    go_wp2_with (go_at_call 20; refine (node_yes _ HN.out _).mono ?_; rintro e w1 ⟨rfl, rfl⟩)
    exact bodyPost_ret (v := .tuple #[.agg #[.int .i64 0, .int .i64 0, .bool false, .int .i64 0], .bool false]) (by simp [results, Try.results22, go_sem]) rfl ⟨rfl, by (unfold Kept; repeat (first | exact Below.refl _ _ | assumption | (refine Below.alloc ?_ (by simp) _) | (refine Below.setCell ?_ (by simp) _) | (refine Below.drew ?_) | (refine below_drewN ?_ _)))⟩
  · subst h2 h3 h4
    have b2 : (who != who) = false := by simp
    have b3 : (ep != ep) = false := by simp
    cases solo
    · go_enter Try.func22, Try.ntmps22
      go_wp2_with (go_at_call 20; refine (node_yes _ HN.out _).mono ?_; rintro e w1 ⟨rfl, rfl⟩)
      exact bodyPost_ret (v := .tuple #[.agg #[.int .i64 0, .int .i64 0, .bool false, .int .i64 0], .bool false]) (by simp [results, Try.results22, go_sem]) rfl ⟨rfl, by (unfold Kept; repeat (first | exact Below.refl _ _ | assumption | (refine Below.alloc ?_ (by simp) _) | (refine Below.setCell ?_ (by simp) _) | (refine Below.drew ?_) | (refine below_drewN ?_ _)))⟩
    · go_enter Try.func22, Try.ntmps22
      go_wp2_with (go_at_call 20; refine (node_yes _ HN.out _).mono ?_; rintro e w1 ⟨rfl, rfl⟩)
      exact bodyPost_ret (v := .tuple #[.agg #[.int .i64 0, .int .i64 0, .bool false, .int .i64 0], .bool false]) (by simp [results, Try.results22, go_sem]) rfl ⟨rfl, by (unfold Kept; repeat (first | exact Below.refl _ _ | assumption | (refine Below.alloc ?_ (by simp) _) | (refine Below.setCell ?_ (by simp) _) | (refine Below.drew ?_) | (refine below_drewN ?_ _)))⟩
  · subst h2 h3 h4
    have b2 : (who != who) = false := by simp
    have b3 : (ep != ep) = false := by simp
    cases solo
    · go_enter Try.func22, Try.ntmps22
      go_wp2_with (go_at_call 20; refine (node_yes _ HN.out _).mono ?_; rintro e w1 ⟨rfl, rfl⟩)
      exact bodyPost_ret (v := .tuple #[.agg #[.int .i64 ep, .int .i64 who, .bool false, .int .i64 fl], .bool true]) (by simp [results, Try.results22, go_sem]) rfl ⟨rfl, by (unfold Kept; repeat (first | exact Below.refl _ _ | assumption | (refine Below.alloc ?_ (by simp) _) | (refine Below.setCell ?_ (by simp) _) | (refine Below.drew ?_) | (refine below_drewN ?_ _)))⟩
    · go_enter Try.func22, Try.ntmps22
      go_wp2_with (go_at_call 20; refine (node_yes _ HN.out _).mono ?_; rintro e w1 ⟨rfl, rfl⟩)
      exact bodyPost_ret (v := .tuple #[.agg #[.int .i64 ep, .int .i64 who, .bool true, .int .i64 fl], .bool true]) (by simp [results, Try.results22, go_sem]) rfl ⟨rfl, by (unfold Kept; repeat (first | exact Below.refl _ _ | assumption | (refine Below.alloc ?_ (by simp) _) | (refine Below.setCell ?_ (by simp) _) | (refine Below.drew ?_) | (refine below_drewN ?_ _)))⟩
end Go.Proofs.Ytciolohapanpfac
