/- The document's own answer of arb. -/
import Derived.Test.YtciolohapanpfacArbLead2
set_option linter.unusedVariables false
set_option linter.unusedSimpArgs false
namespace Go.Proofs.Ytciolohapanpfac
open Go.RowKit
theorem node_bits (who : Int) (h : who = 0 ∨ who = 1) : ((who != 0) = false) ∨ ((who != 0) = true ∧ (who != 1) = false) := by
  rcases h with rfl | rfl
  · exact .inl rfl
  · exact .inr ⟨rfl, rfl⟩
set_option maxHeartbeats 1000000 in
theorem ref_lead (x : AS) (who : Int) (w : World) : Calls Try.prog 14 #[x.v, .int .i64 who] w fun e w' => e = .returned (pairV (leadF x who)) ∧ Kept w w' := by
  rcases lead_cases x who with ⟨h1, hr⟩ | ⟨h1, h2, h3, hr⟩ | ⟨h1, h2, h3, hr⟩ | ⟨h1, h2, h3, hr⟩ | ⟨h1, h2, h3, h4, hr⟩ <;> rw [hr] <;> have HN := Lib.hid h1 <;> clear h1 hr <;> obtain ⟨e, h, s, f⟩ := x <;> dsimp only [AS.v, pairV, AS.zero] at *
  · go_enter Try.func14, Try.ntmps14
    have n0 := neq_of HN.out.1
    have n1 := neq_of HN.out.2
    obtain ⟨n00, n01⟩ := n0
    obtain ⟨n10, n11⟩ := n1
    go_wp2
    exact bodyPost_ret (v := .tuple #[.agg #[.int .i64 0, .int .i64 0, .bool false, .int .i64 0], .bool false]) (by simp [results, Try.results14, go_sem]) rfl ⟨rfl, by (unfold Kept; repeat (first | exact Below.refl _ _ | assumption | (refine Below.alloc ?_ (by simp) _) | (refine Below.setCell ?_ (by simp) _) | (refine Below.drew ?_) | (refine below_drewN ?_ _)))⟩
  · subst h2
    obtain ⟨b0, b1⟩ := neq_of h3
    clear h3
    rcases node_bits who HN.out with n0 | ⟨n0, n1⟩
    · go_enter Try.func14, Try.ntmps14
      go_wp2
      exact bodyPost_ret (v := .tuple #[.agg #[.int .i64 0, .int .i64 0, .bool false, .int .i64 0], .bool false]) (by simp [results, Try.results14, go_sem]) rfl ⟨rfl, by (unfold Kept; repeat (first | exact Below.refl _ _ | assumption | (refine Below.alloc ?_ (by simp) _) | (refine Below.setCell ?_ (by simp) _) | (refine Below.drew ?_) | (refine below_drewN ?_ _)))⟩
    · go_enter Try.func14, Try.ntmps14
      go_wp2
      exact bodyPost_ret (v := .tuple #[.agg #[.int .i64 0, .int .i64 0, .bool false, .int .i64 0], .bool false]) (by simp [results, Try.results14, go_sem]) rfl ⟨rfl, by (unfold Kept; repeat (first | exact Below.refl _ _ | assumption | (refine Below.alloc ?_ (by simp) _) | (refine Below.setCell ?_ (by simp) _) | (refine Below.drew ?_) | (refine below_drewN ?_ _)))⟩
  · cases s
    · clear h2
      rcases node_bits who HN.out with n0 | ⟨n0, n1⟩
      · go_enter Try.func14, Try.ntmps14
        go_wp2
        exact bodyPost_ret (v := .tuple #[.agg #[.int .i64 0, .int .i64 0, .bool false, .int .i64 0], .bool false]) (by simp [results, Try.results14, go_sem]) rfl ⟨rfl, by (unfold Kept; repeat (first | exact Below.refl _ _ | assumption | (refine Below.alloc ?_ (by simp) _) | (refine Below.setCell ?_ (by simp) _) | (refine Below.drew ?_) | (refine below_drewN ?_ _)))⟩
      · go_enter Try.func14, Try.ntmps14
        go_wp2
        exact bodyPost_ret (v := .tuple #[.agg #[.int .i64 0, .int .i64 0, .bool false, .int .i64 0], .bool false]) (by simp [results, Try.results14, go_sem]) rfl ⟨rfl, by (unfold Kept; repeat (first | exact Below.refl _ _ | assumption | (refine Below.alloc ?_ (by simp) _) | (refine Below.setCell ?_ (by simp) _) | (refine Below.drew ?_) | (refine below_drewN ?_ _)))⟩
    · obtain rfl : who = h := by simpa using h2
      clear h2
      have b0 : (who != who) = false := by simp
      rcases node_bits who HN.out with n0 | ⟨n0, n1⟩
      · go_enter Try.func14, Try.ntmps14
        go_wp2
        exact bodyPost_ret (v := .tuple #[.agg #[.int .i64 0, .int .i64 0, .bool false, .int .i64 0], .bool false]) (by simp [results, Try.results14, go_sem]) rfl ⟨rfl, by (unfold Kept; repeat (first | exact Below.refl _ _ | assumption | (refine Below.alloc ?_ (by simp) _) | (refine Below.setCell ?_ (by simp) _) | (refine Below.drew ?_) | (refine below_drewN ?_ _)))⟩
      · go_enter Try.func14, Try.ntmps14
        go_wp2
        exact bodyPost_ret (v := .tuple #[.agg #[.int .i64 0, .int .i64 0, .bool false, .int .i64 0], .bool false]) (by simp [results, Try.results14, go_sem]) rfl ⟨rfl, by (unfold Kept; repeat (first | exact Below.refl _ _ | assumption | (refine Below.alloc ?_ (by simp) _) | (refine Below.setCell ?_ (by simp) _) | (refine Below.drew ?_) | (refine below_drewN ?_ _)))⟩
  · cases s
    · clear h2
      rcases node_bits who HN.out with n0 | ⟨n0, n1⟩
      · go_enter Try.func14, Try.ntmps14
        go_wp2
        exact bodyPost_ret (v := .tuple #[.agg #[.int .i64 0, .int .i64 0, .bool false, .int .i64 0], .bool false]) (by simp [results, Try.results14, go_sem]) rfl ⟨rfl, by (unfold Kept; repeat (first | exact Below.refl _ _ | assumption | (refine Below.alloc ?_ (by simp) _) | (refine Below.setCell ?_ (by simp) _) | (refine Below.drew ?_) | (refine below_drewN ?_ _)))⟩
      · go_enter Try.func14, Try.ntmps14
        go_wp2
        exact bodyPost_ret (v := .tuple #[.agg #[.int .i64 0, .int .i64 0, .bool false, .int .i64 0], .bool false]) (by simp [results, Try.results14, go_sem]) rfl ⟨rfl, by (unfold Kept; repeat (first | exact Below.refl _ _ | assumption | (refine Below.alloc ?_ (by simp) _) | (refine Below.setCell ?_ (by simp) _) | (refine Below.drew ?_) | (refine below_drewN ?_ _)))⟩
    · obtain rfl : who = h := by simpa using h2
      clear h2
      have b0 : (who != who) = false := by simp
      rcases node_bits who HN.out with n0 | ⟨n0, n1⟩
      · go_enter Try.func14, Try.ntmps14
        go_wp2
        exact bodyPost_ret (v := .tuple #[.agg #[.int .i64 0, .int .i64 0, .bool false, .int .i64 0], .bool false]) (by simp [results, Try.results14, go_sem]) rfl ⟨rfl, by (unfold Kept; repeat (first | exact Below.refl _ _ | assumption | (refine Below.alloc ?_ (by simp) _) | (refine Below.setCell ?_ (by simp) _) | (refine Below.drew ?_) | (refine below_drewN ?_ _)))⟩
      · go_enter Try.func14, Try.ntmps14
        go_wp2
        exact bodyPost_ret (v := .tuple #[.agg #[.int .i64 0, .int .i64 0, .bool false, .int .i64 0], .bool false]) (by simp [results, Try.results14, go_sem]) rfl ⟨rfl, by (unfold Kept; repeat (first | exact Below.refl _ _ | assumption | (refine Below.alloc ?_ (by simp) _) | (refine Below.setCell ?_ (by simp) _) | (refine Below.drew ?_) | (refine below_drewN ?_ _)))⟩
  · cases s
    · clear h2
      rcases node_bits who HN.out with n0 | ⟨n0, n1⟩
      · go_enter Try.func14, Try.ntmps14
        go_wp2
        exact bodyPost_ret (v := .tuple #[.agg #[.int .i64 (e + 1), .int .i64 who, .bool false, .int .i64 f], .bool true]) (by simp [results, Try.results14, go_sem]) rfl ⟨rfl, by (unfold Kept; repeat (first | exact Below.refl _ _ | assumption | (refine Below.alloc ?_ (by simp) _) | (refine Below.setCell ?_ (by simp) _) | (refine Below.drew ?_) | (refine below_drewN ?_ _)))⟩
      · go_enter Try.func14, Try.ntmps14
        go_wp2
        exact bodyPost_ret (v := .tuple #[.agg #[.int .i64 (e + 1), .int .i64 who, .bool false, .int .i64 f], .bool true]) (by simp [results, Try.results14, go_sem]) rfl ⟨rfl, by (unfold Kept; repeat (first | exact Below.refl _ _ | assumption | (refine Below.alloc ?_ (by simp) _) | (refine Below.setCell ?_ (by simp) _) | (refine Below.drew ?_) | (refine below_drewN ?_ _)))⟩
    · obtain rfl : who = h := by simpa using h2
      clear h2
      have b0 : (who != who) = false := by simp
      rcases node_bits who HN.out with n0 | ⟨n0, n1⟩
      · go_enter Try.func14, Try.ntmps14
        go_wp2
        exact bodyPost_ret (v := .tuple #[.agg #[.int .i64 (e + 1), .int .i64 who, .bool true, .int .i64 f], .bool true]) (by simp [results, Try.results14, go_sem]) rfl ⟨rfl, by (unfold Kept; repeat (first | exact Below.refl _ _ | assumption | (refine Below.alloc ?_ (by simp) _) | (refine Below.setCell ?_ (by simp) _) | (refine Below.drew ?_) | (refine below_drewN ?_ _)))⟩
      · go_enter Try.func14, Try.ntmps14
        go_wp2
        exact bodyPost_ret (v := .tuple #[.agg #[.int .i64 (e + 1), .int .i64 who, .bool true, .int .i64 f], .bool true]) (by simp [results, Try.results14, go_sem]) rfl ⟨rfl, by (unfold Kept; repeat (first | exact Below.refl _ _ | assumption | (refine Below.alloc ?_ (by simp) _) | (refine Below.setCell ?_ (by simp) _) | (refine Below.drew ?_) | (refine below_drewN ?_ _)))⟩
set_option maxHeartbeats 1000000 in
theorem ref_turn (x : AS) (who ep fl : Int) (solo : Bool) (w : World) : Calls Try.prog 23 #[x.v, .int .i64 who, .int .i64 ep, .int .i64 fl, .bool solo] w fun e w' => e = .returned (pairV (turnF x who ep fl solo)) ∧ Kept w w' := by
  rcases turn_cases x who ep fl solo with ⟨h1, hr⟩ | ⟨h1, h2, hr⟩ | ⟨h1, h2, h3, hr⟩ | ⟨h1, h2, h3, h4, hr⟩ | ⟨h1, h2, h3, h4, h5, hr⟩ | ⟨h1, h2, h3, h4, h5, hr⟩ <;> rw [hr] <;> have HN := Lib.hid h1 <;> clear h1 hr <;> obtain ⟨e, h, s, f⟩ := x <;> dsimp only [AS.v, pairV, AS.zero] at *
  · go_enter Try.func23, Try.ntmps23
    have n0 := neq_of HN.out.1
    have n1 := neq_of HN.out.2
    obtain ⟨n00, n01⟩ := n0
    obtain ⟨n10, n11⟩ := n1
    go_wp2
    exact bodyPost_ret (v := .tuple #[.agg #[.int .i64 0, .int .i64 0, .bool false, .int .i64 0], .bool false]) (by simp [results, Try.results23, go_sem]) rfl ⟨rfl, by (unfold Kept; repeat (first | exact Below.refl _ _ | assumption | (refine Below.alloc ?_ (by simp) _) | (refine Below.setCell ?_ (by simp) _) | (refine Below.drew ?_) | (refine below_drewN ?_ _)))⟩
  · obtain ⟨b0, b1⟩ := neq_of h2
    clear h2
    rcases node_bits who HN.out with n0 | ⟨n0, n1⟩
    · go_enter Try.func23, Try.ntmps23
      go_wp2
      exact bodyPost_ret (v := .tuple #[.agg #[.int .i64 0, .int .i64 0, .bool false, .int .i64 0], .bool false]) (by simp [results, Try.results23, go_sem]) rfl ⟨rfl, by (unfold Kept; repeat (first | exact Below.refl _ _ | assumption | (refine Below.alloc ?_ (by simp) _) | (refine Below.setCell ?_ (by simp) _) | (refine Below.drew ?_) | (refine below_drewN ?_ _)))⟩
    · go_enter Try.func23, Try.ntmps23
      go_wp2
      exact bodyPost_ret (v := .tuple #[.agg #[.int .i64 0, .int .i64 0, .bool false, .int .i64 0], .bool false]) (by simp [results, Try.results23, go_sem]) rfl ⟨rfl, by (unfold Kept; repeat (first | exact Below.refl _ _ | assumption | (refine Below.alloc ?_ (by simp) _) | (refine Below.setCell ?_ (by simp) _) | (refine Below.drew ?_) | (refine below_drewN ?_ _)))⟩
  · obtain ⟨b0, b1⟩ := neq_of h3
    subst h2
    have b2 : (who != who) = false := by simp
    clear h3
    rcases node_bits who HN.out with n0 | ⟨n0, n1⟩
    · go_enter Try.func23, Try.ntmps23
      go_wp2
      exact bodyPost_ret (v := .tuple #[.agg #[.int .i64 0, .int .i64 0, .bool false, .int .i64 0], .bool false]) (by simp [results, Try.results23, go_sem]) rfl ⟨rfl, by (unfold Kept; repeat (first | exact Below.refl _ _ | assumption | (refine Below.alloc ?_ (by simp) _) | (refine Below.setCell ?_ (by simp) _) | (refine Below.drew ?_) | (refine below_drewN ?_ _)))⟩
    · go_enter Try.func23, Try.ntmps23
      go_wp2
      exact bodyPost_ret (v := .tuple #[.agg #[.int .i64 0, .int .i64 0, .bool false, .int .i64 0], .bool false]) (by simp [results, Try.results23, go_sem]) rfl ⟨rfl, by (unfold Kept; repeat (first | exact Below.refl _ _ | assumption | (refine Below.alloc ?_ (by simp) _) | (refine Below.setCell ?_ (by simp) _) | (refine Below.drew ?_) | (refine below_drewN ?_ _)))⟩
  · subst h2 h3 h4
    have b2 : (who != who) = false := by simp
    have b3 : (ep != ep) = false := by simp
    have b4 : (s == s) = true := by simp
    rcases node_bits who HN.out with n0 | ⟨n0, n1⟩
    · go_enter Try.func23, Try.ntmps23
      go_wp2
      exact bodyPost_ret (v := .tuple #[.agg #[.int .i64 0, .int .i64 0, .bool false, .int .i64 0], .bool false]) (by simp [results, Try.results23, go_sem]) rfl ⟨rfl, by (unfold Kept; repeat (first | exact Below.refl _ _ | assumption | (refine Below.alloc ?_ (by simp) _) | (refine Below.setCell ?_ (by simp) _) | (refine Below.drew ?_) | (refine below_drewN ?_ _)))⟩
    · go_enter Try.func23, Try.ntmps23
      go_wp2
      exact bodyPost_ret (v := .tuple #[.agg #[.int .i64 0, .int .i64 0, .bool false, .int .i64 0], .bool false]) (by simp [results, Try.results23, go_sem]) rfl ⟨rfl, by (unfold Kept; repeat (first | exact Below.refl _ _ | assumption | (refine Below.alloc ?_ (by simp) _) | (refine Below.setCell ?_ (by simp) _) | (refine Below.drew ?_) | (refine below_drewN ?_ _)))⟩
  · subst h2 h3 h4
    have b2 : (who != who) = false := by simp
    have b3 : (ep != ep) = false := by simp
    cases solo
    · rcases node_bits who HN.out with n0 | ⟨n0, n1⟩
      · go_enter Try.func23, Try.ntmps23
        go_wp2
        exact bodyPost_ret (v := .tuple #[.agg #[.int .i64 0, .int .i64 0, .bool false, .int .i64 0], .bool false]) (by simp [results, Try.results23, go_sem]) rfl ⟨rfl, by (unfold Kept; repeat (first | exact Below.refl _ _ | assumption | (refine Below.alloc ?_ (by simp) _) | (refine Below.setCell ?_ (by simp) _) | (refine Below.drew ?_) | (refine below_drewN ?_ _)))⟩
      · go_enter Try.func23, Try.ntmps23
        go_wp2
        exact bodyPost_ret (v := .tuple #[.agg #[.int .i64 0, .int .i64 0, .bool false, .int .i64 0], .bool false]) (by simp [results, Try.results23, go_sem]) rfl ⟨rfl, by (unfold Kept; repeat (first | exact Below.refl _ _ | assumption | (refine Below.alloc ?_ (by simp) _) | (refine Below.setCell ?_ (by simp) _) | (refine Below.drew ?_) | (refine below_drewN ?_ _)))⟩
    · rcases node_bits who HN.out with n0 | ⟨n0, n1⟩
      · go_enter Try.func23, Try.ntmps23
        go_wp2
        exact bodyPost_ret (v := .tuple #[.agg #[.int .i64 0, .int .i64 0, .bool false, .int .i64 0], .bool false]) (by simp [results, Try.results23, go_sem]) rfl ⟨rfl, by (unfold Kept; repeat (first | exact Below.refl _ _ | assumption | (refine Below.alloc ?_ (by simp) _) | (refine Below.setCell ?_ (by simp) _) | (refine Below.drew ?_) | (refine below_drewN ?_ _)))⟩
      · go_enter Try.func23, Try.ntmps23
        go_wp2
        exact bodyPost_ret (v := .tuple #[.agg #[.int .i64 0, .int .i64 0, .bool false, .int .i64 0], .bool false]) (by simp [results, Try.results23, go_sem]) rfl ⟨rfl, by (unfold Kept; repeat (first | exact Below.refl _ _ | assumption | (refine Below.alloc ?_ (by simp) _) | (refine Below.setCell ?_ (by simp) _) | (refine Below.drew ?_) | (refine below_drewN ?_ _)))⟩
  · subst h2 h3 h4
    have b2 : (who != who) = false := by simp
    have b3 : (ep != ep) = false := by simp
    cases solo
    · rcases node_bits who HN.out with n0 | ⟨n0, n1⟩
      · go_enter Try.func23, Try.ntmps23
        go_wp2
        exact bodyPost_ret (v := .tuple #[.agg #[.int .i64 ep, .int .i64 who, .bool false, .int .i64 fl], .bool true]) (by simp [results, Try.results23, go_sem]) rfl ⟨rfl, by (unfold Kept; repeat (first | exact Below.refl _ _ | assumption | (refine Below.alloc ?_ (by simp) _) | (refine Below.setCell ?_ (by simp) _) | (refine Below.drew ?_) | (refine below_drewN ?_ _)))⟩
      · go_enter Try.func23, Try.ntmps23
        go_wp2
        exact bodyPost_ret (v := .tuple #[.agg #[.int .i64 ep, .int .i64 who, .bool false, .int .i64 fl], .bool true]) (by simp [results, Try.results23, go_sem]) rfl ⟨rfl, by (unfold Kept; repeat (first | exact Below.refl _ _ | assumption | (refine Below.alloc ?_ (by simp) _) | (refine Below.setCell ?_ (by simp) _) | (refine Below.drew ?_) | (refine below_drewN ?_ _)))⟩
    · rcases node_bits who HN.out with n0 | ⟨n0, n1⟩
      · go_enter Try.func23, Try.ntmps23
        go_wp2
        exact bodyPost_ret (v := .tuple #[.agg #[.int .i64 ep, .int .i64 who, .bool true, .int .i64 fl], .bool true]) (by simp [results, Try.results23, go_sem]) rfl ⟨rfl, by (unfold Kept; repeat (first | exact Below.refl _ _ | assumption | (refine Below.alloc ?_ (by simp) _) | (refine Below.setCell ?_ (by simp) _) | (refine Below.drew ?_) | (refine below_drewN ?_ _)))⟩
      · go_enter Try.func23, Try.ntmps23
        go_wp2
        exact bodyPost_ret (v := .tuple #[.agg #[.int .i64 ep, .int .i64 who, .bool true, .int .i64 fl], .bool true]) (by simp [results, Try.results23, go_sem]) rfl ⟨rfl, by (unfold Kept; repeat (first | exact Below.refl _ _ | assumption | (refine Below.alloc ?_ (by simp) _) | (refine Below.setCell ?_ (by simp) _) | (refine Below.drew ?_) | (refine below_drewN ?_ _)))⟩
end Go.Proofs.Ytciolohapanpfac
