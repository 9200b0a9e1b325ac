/- The walks of enc.In, second part: S, Small, End, at every state. -/
import Derived.Test.YteaepgbakcifkaaDoorEncIn
set_option linter.unusedVariables false
set_option linter.unusedSimpArgs false
namespace Go.Proofs.YteaepgbakcifkaaDoor
open Go.RowKit
set_option maxHeartbeats 400000 in
theorem in_U_bad (p : Nat) (zs : List Int) (w : World) (hI : InAt w 57 p zs true) :
    Calls Tryd.prog 30 #[.pointer (some ⟨p, 0, none⟩)] w fun e w' => e = .returned (.int .u64 0) ∧ InAt w' 57 p [] true ∧ Only [p] w w' := by
  have HI := Lib.hid hI
  obtain ⟨a, n, c, hp, hS, hi, hB⟩ := hI
  have c1 := at_cell hp 1 _ rfl
  have hfail := Lib.hid (fun (W : World) (h : InAt W 57 p zs true) => in_fail p zs true W h)
  clear hS hB
  go_enter Tryd.func30, Tryd.ntmps30
  go_wp2_with fail
  refine wp_loop_rounds 1 ?_
  rw [rounds_succ]
  go_wp2_with (go_at_call 52; refine (hfail.out _ HI.out).mono ?_; rintro e w' ⟨rfl, hI', hO⟩)
  go_ret
  exact ⟨rfl, hI', hO⟩
theorem in_U_any (p : Nat) (s : St) (w : World) (hI : InAt w 57 p s.1 s.2) :
    Calls Tryd.prog 30 #[.pointer (some ⟨p, 0, none⟩)] w fun e w' => e = .returned (.int .u64 (stU s).1) ∧ InAt w' 57 p (stU s).2.1 (stU s).2.2 ∧ Only [p] w w' ∧ 0 ≤ (stU s).1 ∧ (stU s).1 ≤ 18446744073709551615 := by
  obtain ⟨zs, b⟩ := s
  cases b
  · exact in_U p zs w hI
  · exact (in_U_bad p zs w hI).mono fun e w' ⟨h1, h2, h3⟩ => ⟨h1, h2, h3, by show (0 : Int) ≤ 0; omega, by show (0 : Int) ≤ 18446744073709551615; omega⟩
set_option maxHeartbeats 400000 in
theorem in_End (p : Nat) (s : St) (w : World) (hI : InAt w 57 p s.1 s.2) :
    Calls Tryd.prog 32 #[.pointer (some ⟨p, 0, none⟩)] w fun e w' => e = .returned (.bool (!s.2 && s.1.isEmpty)) ∧ w = w' := by
  obtain ⟨zs, b⟩ := s
  obtain ⟨a, n, c, hp, hS, hi, hB⟩ := hI
  have c0 := at_cell hp 0 _ rfl
  have c1 := at_cell hp 1 _ rfl
  have hl := hS.1
  have hcm := hS.2.2.1
  unfold maxLen at hcm
  have hfin : Hid ((((n : Int) == 0)) = zs.isEmpty) := by
    unfold Hid; subst hl; cases zs <;> simp; omega
  clear hS hB hi hp hl
  dsimp only at *
  cases b
  · go_enter Tryd.func32, Tryd.ntmps32
    go_wp2
    go_ret
    exact ⟨ret_bool hfin.out, rfl⟩
  · go_enter Tryd.func32, Tryd.ntmps32
    go_wp2
    go_ret
    exact ⟨rfl, rfl⟩
set_option maxHeartbeats 1000000 in
theorem in_S (p : Nat) (s : St) (m : Int) (w : World) (hm0 : -9223372036854775808 ≤ m) (hm1 : m ≤ 9223372036854775807) (hI : InAt w 57 p s.1 s.2) :
    Calls Tryd.prog 31 #[.pointer (some ⟨p, 0, none⟩), .int .i64 m] w fun e w' => e = .returned (.string (strOf (stS m s).1)) ∧ InAt w' 57 p (stS m s).2.1 (stS m s).2.2 ∧ Only [p] w w' := by
  have HI := Lib.hid (in_U_any p s w hI)
  clear hI
  have hres := Lib.hid (show stS m s = if (stU s).2.2 = true ∨ m < 0 ∨ m < (stU s).1 ∨ ((stU s).2.1.length : Int) < (stU s).1 then ([], [], true) else ((stU s).2.1.take (stU s).1.toNat, (stU s).2.1.drop (stU s).1.toNat, false) from rfl)
  generalize stS m s = res at *
  go_enter Tryd.func31, Tryd.ntmps31
  go_wp2_with fail
  refine HI.out.mono ?_
  clear HI
  rintro e w1 ⟨rfl, hI1, hO1, hb0, hb1⟩
  generalize stU s = r at *
  obtain ⟨v, zs, bad⟩ := r
  dsimp only at *
  have HI1 := Lib.hid hI1
  obtain ⟨a, n, c, hp, hS, hi, hB⟩ := hI1
  have c0 := at_cell hp 0 _ rfl
  have c1 := at_cell hp 1 _ rfl
  have f0 := one_free hp 0
  have HS := Lib.hid hS
  have HB := Lib.hid hB
  have hcm := hS.2.2.1
  have hnc := hS.2.1
  have HL := Lib.hid hS.1
  clear hS hB
  unfold maxLen at hcm
  have hfail := Lib.hid (fun (W : World) (h : InAt W 57 p zs bad) => in_fail p zs bad W h)
  have hbadres : Hid ((bad = true ∨ m < 0 ∨ m < v ∨ (n : Int) < v) → res = ([], [], true)) := by
    intro h; rw [hres.out, if_pos]; rw [HL.out]; exact h
  have hgood : Hid (¬ (bad = true ∨ m < 0 ∨ m < v ∨ (n : Int) < v) → res = (zs.take v.toNat, zs.drop v.toNat, false)) := by
    intro h; rw [hres.out, if_neg]; rw [HL.out]; exact h
  clear hres
  cases bad
  case true =>
    have hr := Lib.hid (hbadres.out (.inl rfl))
    clear hbadres hgood
    go_wp2_with (go_at_call 52; refine (hfail.out _ HI1.out).mono ?_; rintro e w' ⟨rfl, hI', hO⟩)
    go_ret
    rw [hr.out]
    exact ⟨rfl, hI', hO1.trans hO⟩
  case false =>
    by_cases h1 : m < 0
    · have hr := Lib.hid (hbadres.out (.inr (.inl h1)))
      clear hbadres hgood
      go_wp2_with (go_at_call 52; refine (hfail.out _ HI1.out).mono ?_; rintro e w' ⟨rfl, hI', hO⟩)
      go_ret
      rw [hr.out]
      exact ⟨rfl, hI', hO1.trans hO⟩
    · have h1' : 0 ≤ m := by omega
      by_cases h2 : m < v
      · have hr := Lib.hid (hbadres.out (.inr (.inr (.inl h2))))
        clear hbadres hgood
        go_wp2_with (go_at_call 52; refine (hfail.out _ HI1.out).mono ?_; rintro e w' ⟨rfl, hI', hO⟩)
        go_ret
        rw [hr.out]
        exact ⟨rfl, hI', hO1.trans hO⟩
      · have h2' : v ≤ m := by omega
        by_cases h3 : (n : Int) < v
        · have hr := Lib.hid (hbadres.out (.inr (.inr (.inr h3))))
          clear hbadres hgood
          go_wp2_with (go_at_call 52; refine (hfail.out _ HI1.out).mono ?_; rintro e w' ⟨rfl, hI', hO⟩)
          go_ret
          rw [hr.out]
          exact ⟨rfl, hI', hO1.trans hO⟩
        · have hr := Lib.hid (hgood.out (by simp; omega))
          clear hbadres hgood
          obtain ⟨k, rfl⟩ := Int.eq_ofNat_of_zero_le hb0
          have hkn : k ≤ n := by omega
          have hs1 := fun W => run_cut_h elemB a n c .u64 k (k : Int) rfl (by omega) W
          have hs2 := fun W => run_cut_l elemB a n c .u64 k (k : Int) rfl hkn W
          have hs3 := run_str (P := Tryd.prog) 27 9 5 Tryd.underlying27 Tryd.underlying5 Tryd.underlying9 (sl_take HS.out k hkn)
          have hfin := Lib.hid (inAt_cut hp HS.out hi HB.out k hkn)
          go_wp2
          go_ret
          rw [hr.out]
          exact ⟨by rw [Int.toNat_natCast]; rfl, by rw [Int.toNat_natCast]; exact hfin.out, hO1.setCell (by simp) _⟩
set_option maxHeartbeats 1000000 in
theorem in_Small (p : Nat) (s : St) (m : Int) (w : World) (hm0 : 0 ≤ m) (hm1 : m ≤ 18446744073709551615) (hI : InAt w 57 p s.1 s.2) :
    Calls Tryd.prog 29 #[.pointer (some ⟨p, 0, none⟩), .int .u64 m] w fun e w' => e = .returned (.int .i64 (stSmall m s).1) ∧ InAt w' 57 p (stSmall m s).2.1 (stSmall m s).2.2 ∧ Only [p] w w' := by
  have HI := Lib.hid (in_U_any p s w hI)
  clear hI
  have hres := Lib.hid (show stSmall m s = if (stU s).2.2 = true ∨ m < (stU s).1 ∨ 2147483647 < (stU s).1 then (0, [], true) else ((stU s).1, (stU s).2) from rfl)
  generalize stSmall m s = res at *
  go_enter Tryd.func29, Tryd.ntmps29
  go_wp2_with fail
  refine HI.out.mono ?_
  clear HI
  rintro e w1 ⟨rfl, hI1, hO1, hb0, hb1⟩
  generalize stU s = r at *
  obtain ⟨v, zs, bad⟩ := r
  dsimp only at *
  have HI1 := Lib.hid hI1
  obtain ⟨a, n, c, hp, hS, hi, hB⟩ := hI1
  have c1 := at_cell hp 1 _ rfl
  clear hS hB
  have hfail := Lib.hid (fun (W : World) (h : InAt W 57 p zs bad) => in_fail p zs bad W h)
  have hbadres : Hid ((bad = true ∨ m < v ∨ 2147483647 < v) → res = (0, [], true)) := by
    intro h; rw [hres.out, if_pos h]
  have hgood : Hid (¬ (bad = true ∨ m < v ∨ 2147483647 < v) → res = (v, zs, bad)) := by
    intro h; rw [hres.out, if_neg h]
  clear hres
  cases bad
  case true =>
    have hr := Lib.hid (hbadres.out (.inl rfl))
    clear hbadres hgood
    go_wp2_with (go_at_call 52; refine (hfail.out _ HI1.out).mono ?_; rintro e w' ⟨rfl, hI', hO⟩)
    go_ret
    rw [hr.out]
    exact ⟨rfl, hI', hO1.trans hO⟩
  case false =>
    by_cases h2 : m < v
    · have hr := Lib.hid (hbadres.out (.inr (.inl h2)))
      clear hbadres hgood
      go_wp2_with (go_at_call 52; refine (hfail.out _ HI1.out).mono ?_; rintro e w' ⟨rfl, hI', hO⟩)
      go_ret
      rw [hr.out]
      exact ⟨rfl, hI', hO1.trans hO⟩
    · have h2' : v ≤ m := by omega
      by_cases h3 : 2147483647 < v
      · have hr := Lib.hid (hbadres.out (.inr (.inr h3)))
        clear hbadres hgood
        go_wp2_with (go_at_call 52; refine (hfail.out _ HI1.out).mono ?_; rintro e w' ⟨rfl, hI', hO⟩)
        go_ret
        rw [hr.out]
        exact ⟨rfl, hI', hO1.trans hO⟩
      · have h3' : v ≤ 2147483647 := by omega
        have hr := Lib.hid (hgood.out (by simp; omega))
        clear hbadres hgood
        go_wp2
        go_ret
        rw [hr.out]
        exact ⟨rfl, HI1.out, hO1⟩
end Go.Proofs.YteaepgbakcifkaaDoor
