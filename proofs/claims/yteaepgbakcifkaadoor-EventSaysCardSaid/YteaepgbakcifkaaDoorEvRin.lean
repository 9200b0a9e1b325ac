/- The document's In (its U, S, Small). -/
import Derived.Test.YteaepgbakcifkaaDoorEncIn2
set_option linter.unusedVariables false
set_option linter.unusedSimpArgs false
namespace Go.Proofs.YteaepgbakcifkaaDoor
open Go.RowKit
set_option maxHeartbeats 400000 in
theorem rin_fail (p : Nat) (zs : List Int) (bad : Bool) (w : World) (hI : InAt w 61 p zs bad) :
    Calls Tryd.prog 53 #[.pointer (some ⟨p, 0, none⟩)] w fun e w' => e = .returned (.tuple #[]) ∧ InAt w' 61 p [] true ∧ Only [p] w w' := by
  obtain ⟨a, n, c, hp, hS, hi, hB⟩ := hI
  have c0 := at_cell hp 0 _ rfl
  have c1 := at_cell hp 1 _ rfl
  have f0 := one_free hp 0
  have f1 := one_free hp 1
  go_enter Tryd.func53, Tryd.ntmps53
  go_wp2
  go_end0
  refine ⟨rfl, ⟨none, 0, 0, at_set (at_set hp 1 _) 0 _, sl_nil _ _, (by intro x hx; cases hx), (by intro i; simp)⟩, ((Only.refl _ _).setCell (by simp) _).setCell (by simp) _⟩
theorem wrap_range (x : Int) : 0 ≤ IntKind.u64.wrap x ∧ IntKind.u64.wrap x ≤ 18446744073709551615 := by rw [IntKind.wrap_u64]; omega
theorem wrap_same (x : Int) (h0 : 0 ≤ x) (h1 : x ≤ 18446744073709551615) : IntKind.u64.wrap x = x := by rw [IntKind.wrap_u64]; omega
set_option maxHeartbeats 1000000 in
theorem rin_U (p : Nat) (zs : List Int) (w : World) (hI : InAt w 61 p zs false) :
    Calls Tryd.prog 35 #[.pointer (some ⟨p, 0, none⟩)] w fun e w' => e = .returned (.int .u64 (rdV zs).1) ∧ InAt w' 61 p (rdV zs).2.1 (rdV zs).2.2 ∧ Only [p] w w' ∧ 0 ≤ (rdV zs).1 ∧ (rdV zs).1 ≤ 18446744073709551615 := by
  have HI := Lib.hid hI
  obtain ⟨a, n, c, hp, hS, hi, hB⟩ := hI
  have HS := Lib.hid hS
  have HB := Lib.hid hB
  have c0 := at_cell hp 0 _ rfl
  have c1 := at_cell hp 1 _ rfl
  have f0 := one_free hp 0
  have hcm := hS.2.2.1
  have hnc := hS.2.1
  have HL := Lib.hid hS.1
  clear hS hB
  unfold maxLen at hcm
  have H0 : Hid (rdU zs = rdF (10 - 0) 0 0 (zs.drop 0)) := rfl
  go_enter Tryd.func35, Tryd.ntmps35
  go_wp2_with fail
  go_loop [3, 4, 5] (fun v t i => ∃ (u q : Int) (k : Nat), 0 ≤ u ∧ u ≤ 18446744073709551615 ∧ 0 ≤ q ∧ q ≤ 18446744073709551615 ∧ k ≤ 10 ∧ k ≤ n ∧ v = .int .u64 u ∧ t = .int .u64 q ∧ i = .int .i64 k ∧ Hid (k ≤ 9 → u < 2 ^ (7 * k) ∧ q = 2 ^ (7 * k)) ∧ Hid (∃ u', rdU zs = rdF (10 - k) k u' (zs.drop k) ∧ (k ≤ 9 → u' = u)))
    (fun _ _ i => 10 - (intOf i).toNat)
  case atStart => exact ⟨0, 1, 0, by omega, by omega, by omega, by omega, by omega, by omega, rfl, rfl, rfl, fun _ => by simp, 0, H0, fun _ => rfl⟩
  case round =>
    obtain ⟨u, q, k, u0, u1, q0, q1, hk, hkn, rfl, rfl, rfl, hlo, hrd⟩ := hrel
    have hfail := Lib.hid (fun (W : World) (h : InAt W 61 p zs false) => rin_fail p zs false W h)
    by_cases hlt : k < 10 ∧ k < n
    · obtain ⟨hk10, hlt⟩ := hlt
      obtain ⟨b, o, v, rfl, hc, hv⟩ := HS.out.at k hlt
      have hb : 0 ≤ v ∧ v ≤ 255 := by rw [hv.out]; exact HB.out k
      obtain ⟨hb0, hb1⟩ := hb
      have hk10' : (k : Int) < 10 := by omega
      have hlt' : (k : Int) < n := by omega
      have hst : Hid (∃ u', rdU zs = (if 128 ≤ v then rdF (9 - k) (k + 1) (u' + (v % 128) * 2 ^ (7 * k)) (zs.drop (k + 1)) else if (v = 0 ∧ 0 < k) ∨ (k = 9 ∧ 1 < v) then none else some (u' + (v % 128) * 2 ^ (7 * k), zs.drop (k + 1))) ∧ u' = u) := by
        obtain ⟨u', h1, h2⟩ := hrd.out
        refine ⟨u', ?_, h2 (by omega)⟩
        rw [h1, show 10 - k = (9 - k) + 1 from by omega, rdF_step _ _ _ _ _ (by rw [HL.out]; exact hlt), ← hv.out]
      clear hrd
      by_cases hk9 : k = 9 ∧ 1 < v
      · have hnone : Hid (rdV zs = (0, [], true)) := by
          obtain ⟨u', h1, h2⟩ := hst.out
          refine rdV_none (h1.trans ?_)
          obtain ⟨rfl, h9⟩ := hk9
          split
          · rfl
          · rw [if_pos (.inr ⟨rfl, h9⟩)]
        clear hst hlo
        obtain ⟨rfl, h9⟩ := hk9
        go_wp2_with (go_at_call 53; refine (hfail.out _ HI.out).mono ?_; rintro e w' ⟨rfl, hI', hO⟩)
        go_ret
        rw [hnone.out]
        exact ⟨rfl, hI', hO, by decide, by decide⟩
      · have hok : k ≤ 8 ∨ v ≤ 1 := by omega
        have hy : Hid (0 ≤ v % 128 * q ∧ v % 128 * q ≤ 18446744073709551615 ∧ u + v % 128 * q ≤ 18446744073709551615 ∧ v % 128 * q = v % 128 * 2 ^ (7 * k) ∧ (k ≤ 8 → u + v % 128 * q < 2 ^ (7 * (k + 1)) ∧ IntKind.u64.wrap (q * 128) = 2 ^ (7 * (k + 1)))) := by
          obtain ⟨l1, l2⟩ := hlo.out (by omega)
          subst l2
          rcases hok with h | h
          · obtain ⟨p1, p2, p3⟩ := pow7 k h (v % 128) (by omega) (by omega)
            have hlt2 : (2 : Int) ^ (7 * (k + 1)) ≤ 9223372036854775808 := by
              have : k = 0 ∨ k = 1 ∨ k = 2 ∨ k = 3 ∨ k = 4 ∨ k = 5 ∨ k = 6 ∨ k = 7 ∨ k = 8 := by omega
              rcases this with rfl | rfl | rfl | rfl | rfl | rfl | rfl | rfl | rfl <;> simp
            have h3 := p3 u l1
            refine ⟨p2, p1, by omega, rfl, fun _ => ⟨h3, ?_⟩⟩
            have e7 : (2 : Int) ^ (7 * (k + 1)) = 2 ^ (7 * k) * 128 := by rw [Nat.mul_add, Int.pow_add]; rfl
            rw [← e7]
            exact wrap_same _ (by omega) (by omega)
          · have h9 : k = 9 ∨ k ≤ 8 := by omega
            rcases h9 with rfl | h9
            · have hv1 : v % 128 = v := by omega
              simp only [Nat.reduceMul, Int.reducePow] at l1 ⊢
              exact ⟨by omega, by omega, by omega, by trivial, fun hh => by omega⟩
            · obtain ⟨p1, p2, p3⟩ := pow7 k h9 (v % 128) (by omega) (by omega)
              have hlt2 : (2 : Int) ^ (7 * (k + 1)) ≤ 9223372036854775808 := by
                have : k = 0 ∨ k = 1 ∨ k = 2 ∨ k = 3 ∨ k = 4 ∨ k = 5 ∨ k = 6 ∨ k = 7 ∨ k = 8 := by omega
                rcases this with rfl | rfl | rfl | rfl | rfl | rfl | rfl | rfl | rfl <;> simp
              have h3 := p3 u l1
              refine ⟨p2, p1, by omega, rfl, fun _ => ⟨h3, ?_⟩⟩
              have e7 : (2 : Int) ^ (7 * (k + 1)) = 2 ^ (7 * k) * 128 := by rw [Nat.mul_add, Int.pow_add]; rfl
              rw [← e7]
              exact wrap_same _ (by omega) (by omega)
        have y0 := hy.out.1
        have y1 := hy.out.2.1
        have y2 := hy.out.2.2.1
        have hw1 := wrap_same _ y0 y1
        have hw2 := wrap_same (u + v % 128 * q) (by omega) y2
        have hmod : Hid (v % 128 ≤ 127) := by unfold Hid; omega
        by_cases hv1 : 128 ≤ v
        · have hk9' : ((k : Int) == 9) = false := by simp; omega
          clear hk9
          have hk8 : k ≤ 8 := by omega
          go_wp2
          refine ⟨⟨_, _, k + 1, ?_, ?_, (wrap_range _).1, (wrap_range _).2, by omega, by omega, rfl, rfl, by go_num, ?_, ?_⟩, by simp [intOf]; omega⟩
          · omega
          · exact y2
          · intro h9
            exact hy.out.2.2.2.2 hk8
          · obtain ⟨u', h1, h2⟩ := hst.out
            rw [if_pos hv1] at h1
            exact ⟨_, by rw [h1, show 10 - (k + 1) = 9 - k from by omega], fun _ => by rw [h2, hy.out.2.2.2.1]⟩
        · have hv2 : v < 128 := by omega
          have hvm : Hid (v % 128 = v) := by unfold Hid; omega
          by_cases hz : v = 0 ∧ 0 < k
          · have hnone : Hid (rdV zs = (0, [], true)) := by
              obtain ⟨u', h1, h2⟩ := hst.out
              rw [if_neg hv1, if_pos (.inl hz)] at h1
              exact rdV_none h1
            obtain ⟨rfl, hk0⟩ := hz
            have hk0' : (0 : Int) < k := by omega
            have h91 : ¬ (1 : Int) < 0 := by omega
            clear hst hlo hy hv1 hok hk9 hvm
            by_cases hkk : k = 9
            · have hkb : ((k : Int) == 9) = true := by simp; omega
              clear hkk
              go_wp2_with (go_at_call 53; refine (hfail.out _ HI.out).mono ?_; rintro e w' ⟨rfl, hI', hO⟩)
              go_ret
              rw [hnone.out]
              exact ⟨rfl, hI', hO, by decide, by decide⟩
            · have hkb : ((k : Int) == 9) = false := by simp; omega
              clear hkk
              go_wp2_with (go_at_call 53; refine (hfail.out _ HI.out).mono ?_; rintro e w' ⟨rfl, hI', hO⟩)
              go_ret
              rw [hnone.out]
              exact ⟨rfl, hI', hO, by decide, by decide⟩
          · have hsome : Hid (rdV zs = (u + v % 128 * q, zs.drop (k + 1), false)) := by
              obtain ⟨u', h1, h2⟩ := hst.out
              rw [if_neg hv1, if_neg (fun h => h.elim hz hk9), h2] at h1
              rw [hy.out.2.2.2.1]
              exact rdV_some h1
            have hfin := Lib.hid (inAt_cut hp HS.out hi HB.out (k + 1) (by omega))
            have hsl := fun W => run_cut_l elemB (some ⟨b, o, none⟩) n c .i64 (k + 1) ((k : Int) + 1) (by omega) (by omega) W
            have hval := Lib.hid (hy.out).2.2.2.1
            have y0' : 0 ≤ u + v % 128 * q := by omega
            clear hst hlo hy hok hval
            by_cases h0 : v = 0
            · obtain rfl : k = 0 := by omega
              have hb0 : (v == 0) = true := by simp [h0]
              have hsl1 := fun W => run_cut_l elemB (some ⟨b, o, none⟩) n c .i64 1 1 rfl (by omega) W
              rw [Nat.add_zero] at hc
              clear h0 hz hk9 hsl hk10' hlt'
              go_wp2
              go_ret
              rw [hsome.out]
              exact ⟨rfl, hfin.out, (Only.refl _ _).setCell (by simp) _, y0', y2⟩
            · have hb0 : (v == 0) = false := by simp; omega
              by_cases h9 : k = 9
              · have hv1' : v ≤ 1 := by omega
                have h9' : ((k : Int) == 9) = true := by simp; omega
                clear h9 hz hk9 h0
                go_wp2
                go_ret
                rw [hsome.out]
                exact ⟨rfl, hfin.out, (Only.refl _ _).setCell (by simp) _, y0', y2⟩
              · have h9' : ((k : Int) == 9) = false := by simp; omega
                clear h9 hz hk9 h0
                go_wp2
                go_ret
                rw [hsome.out]
                exact ⟨rfl, hfin.out, (Only.refl _ _).setCell (by simp) _, y0', y2⟩
    · have hnone : Hid (rdV zs = (0, [], true)) := by
        obtain ⟨u', h1, h2⟩ := hrd.out
        refine rdV_none (h1.trans ?_)
        by_cases h10 : k = 10
        · rw [h10]; rfl
        · exact rdF_end _ _ _ _ _ (by rw [HL.out]; omega)
      clear hrd hlo
      by_cases h10 : (k : Int) < n
      · have hge : (10 : Int) ≤ k := by omega
        clear hlt
        go_wp2_with (go_at_call 53; refine (hfail.out _ HI.out).mono ?_; rintro e w' ⟨rfl, hI', hO⟩)
        go_ret
        rw [hnone.out]
        exact ⟨rfl, hI', hO, by decide, by decide⟩
      · clear hlt
        go_wp2_with (go_at_call 53; refine (hfail.out _ HI.out).mono ?_; rintro e w' ⟨rfl, hI', hO⟩)
        go_ret
        rw [hnone.out]
        exact ⟨rfl, hI', hO, by decide, by decide⟩

set_option maxHeartbeats 400000 in
theorem rin_U_bad (p : Nat) (zs : List Int) (w : World) (hI : InAt w 61 p zs true) :
    Calls Tryd.prog 35 #[.pointer (some ⟨p, 0, none⟩)] w fun e w' => e = .returned (.int .u64 0) ∧ InAt w' 61 p [] true ∧ Only [p] w w' := by
  have HI := Lib.hid hI
  obtain ⟨a, n, c, hp, hS, hi, hB⟩ := hI
  have c1 := at_cell hp 1 _ rfl
  have c0 := at_cell hp 0 _ rfl
  have f0 := one_free hp 0
  clear hS hB
  go_enter Tryd.func35, Tryd.ntmps35
  go_wp2
  go_ret
  exact ⟨rfl, ⟨none, 0, 0, at_set hp 0 _, sl_nil _ _, (by intro x hx; cases hx), (by intro i; simp)⟩, (Only.refl _ _).setCell (by simp) _⟩
theorem rin_U_any (p : Nat) (s : St) (w : World) (hI : InAt w 61 p s.1 s.2) :
    Calls Tryd.prog 35 #[.pointer (some ⟨p, 0, none⟩)] w fun e w' => e = .returned (.int .u64 (stU s).1) ∧ InAt w' 61 p (stU s).2.1 (stU s).2.2 ∧ Only [p] w w' ∧ 0 ≤ (stU s).1 ∧ (stU s).1 ≤ 18446744073709551615 := by
  obtain ⟨zs, b⟩ := s
  cases b
  · exact rin_U p zs w hI
  · exact (rin_U_bad p zs w hI).mono fun e w' ⟨h1, h2, h3⟩ => ⟨h1, h2, h3, by show (0 : Int) ≤ 0; omega, by show (0 : Int) ≤ 18446744073709551615; omega⟩
set_option maxHeartbeats 1000000 in
theorem rin_S (p : Nat) (s : St) (m : Int) (w : World) (hm0 : -9223372036854775808 ≤ m) (hm1 : m ≤ 9223372036854775807) (hI : InAt w 61 p s.1 s.2) :
    Calls Tryd.prog 36 #[.pointer (some ⟨p, 0, none⟩), .int .i64 m] w fun e w' => e = .returned (.string (strOf (stS m s).1)) ∧ InAt w' 61 p (stS m s).2.1 (stS m s).2.2 ∧ Only [p] w w' := by
  have HI := Lib.hid (rin_U_any p s w hI)
  clear hI
  have hres := Lib.hid (show stS m s = if (stU s).2.2 = true ∨ m < 0 ∨ m < (stU s).1 ∨ ((stU s).2.1.length : Int) < (stU s).1 then ([], [], true) else ((stU s).2.1.take (stU s).1.toNat, (stU s).2.1.drop (stU s).1.toNat, false) from rfl)
  generalize stS m s = res at *
  go_enter Tryd.func36, Tryd.ntmps36
  go_wp2_with fail
  refine HI.out.mono ?_
  clear HI
  rintro e w1 ⟨rfl, hI1, hO1, hb0, hb1⟩
  generalize stU s = r at *
  obtain ⟨v, zs, bad⟩ := r
  dsimp only at *
  have HI1 := Lib.hid hI1
  obtain ⟨a, n, c, hp, hS, hi, hB⟩ := hI1
  have c0 := at_cell hp 0 _ rfl
  have c1 := at_cell hp 1 _ rfl
  have f0 := one_free hp 0
  have HS := Lib.hid hS
  have HB := Lib.hid hB
  have hcm := hS.2.2.1
  have hnc := hS.2.1
  have HL := Lib.hid hS.1
  clear hS hB
  unfold maxLen at hcm
  have hfail := Lib.hid (fun (W : World) (h : InAt W 61 p zs bad) => rin_fail p zs bad W h)
  have hbadres : Hid ((bad = true ∨ m < 0 ∨ m < v ∨ (n : Int) < v) → res = ([], [], true)) := by
    intro h; rw [hres.out, if_pos]; rw [HL.out]; exact h
  have hgood : Hid (¬ (bad = true ∨ m < 0 ∨ m < v ∨ (n : Int) < v) → res = (zs.take v.toNat, zs.drop v.toNat, false)) := by
    intro h; rw [hres.out, if_neg]; rw [HL.out]; exact h
  clear hres
  cases bad
  case true =>
    have hr := Lib.hid (hbadres.out (.inl rfl))
    clear hbadres hgood
    go_wp2_with (go_at_call 53; refine (hfail.out _ HI1.out).mono ?_; rintro e w' ⟨rfl, hI', hO⟩)
    go_ret
    rw [hr.out]
    exact ⟨rfl, hI', hO1.trans hO⟩
  case false =>
    by_cases h1 : m < 0
    · have hr := Lib.hid (hbadres.out (.inr (.inl h1)))
      clear hbadres hgood
      go_wp2_with (go_at_call 53; refine (hfail.out _ HI1.out).mono ?_; rintro e w' ⟨rfl, hI', hO⟩)
      go_ret
      rw [hr.out]
      exact ⟨rfl, hI', hO1.trans hO⟩
    · have h1' : 0 ≤ m := by omega
      by_cases h2 : m < v
      · have hr := Lib.hid (hbadres.out (.inr (.inr (.inl h2))))
        clear hbadres hgood
        go_wp2_with (go_at_call 53; refine (hfail.out _ HI1.out).mono ?_; rintro e w' ⟨rfl, hI', hO⟩)
        go_ret
        rw [hr.out]
        exact ⟨rfl, hI', hO1.trans hO⟩
      · have h2' : v ≤ m := by omega
        by_cases h3 : (n : Int) < v
        · have hr := Lib.hid (hbadres.out (.inr (.inr (.inr h3))))
          clear hbadres hgood
          go_wp2_with (go_at_call 53; refine (hfail.out _ HI1.out).mono ?_; rintro e w' ⟨rfl, hI', hO⟩)
          go_ret
          rw [hr.out]
          exact ⟨rfl, hI', hO1.trans hO⟩
        · have hr := Lib.hid (hgood.out (by simp; omega))
          clear hbadres hgood
          obtain ⟨k, rfl⟩ := Int.eq_ofNat_of_zero_le hb0
          have hkn : k ≤ n := by omega
          have hs1 := fun W => run_cut_h elemB a n c .u64 k (k : Int) rfl (by omega) W
          have hs2 := fun W => run_cut_l elemB a n c .u64 k (k : Int) rfl hkn W
          have hs3 := run_str (P := Tryd.prog) 27 9 5 Tryd.underlying27 Tryd.underlying5 Tryd.underlying9 (sl_take HS.out k hkn)
          have hfin := Lib.hid (inAt_cut hp HS.out hi HB.out k hkn)
          go_wp2
          go_ret
          rw [hr.out]
          exact ⟨by rw [Int.toNat_natCast]; rfl, by rw [Int.toNat_natCast]; exact hfin.out, hO1.setCell (by simp) _⟩
set_option maxHeartbeats 1000000 in
theorem rin_Small (p : Nat) (s : St) (m : Int) (w : World) (hm0 : 0 ≤ m) (hm1 : m ≤ 18446744073709551615) (hI : InAt w 61 p s.1 s.2) :
    Calls Tryd.prog 33 #[.pointer (some ⟨p, 0, none⟩), .int .u64 m] w fun e w' => e = .returned (.int .i64 (stSmall m s).1) ∧ InAt w' 61 p (stSmall m s).2.1 (stSmall m s).2.2 ∧ Only [p] w w' := by
  have HI := Lib.hid (rin_U_any p s w hI)
  clear hI
  have hres := Lib.hid (show stSmall m s = if (stU s).2.2 = true ∨ m < (stU s).1 ∨ 2147483647 < (stU s).1 then (0, [], true) else ((stU s).1, (stU s).2) from rfl)
  generalize stSmall m s = res at *
  go_enter Tryd.func33, Tryd.ntmps33
  go_wp2_with fail
  refine HI.out.mono ?_
  clear HI
  rintro e w1 ⟨rfl, hI1, hO1, hb0, hb1⟩
  generalize stU s = r at *
  obtain ⟨v, zs, bad⟩ := r
  dsimp only at *
  have HI1 := Lib.hid hI1
  obtain ⟨a, n, c, hp, hS, hi, hB⟩ := hI1
  have c1 := at_cell hp 1 _ rfl
  clear hS hB
  have hfail := Lib.hid (fun (W : World) (h : InAt W 61 p zs bad) => rin_fail p zs bad W h)
  have hbadres : Hid ((bad = true ∨ m < v ∨ 2147483647 < v) → res = (0, [], true)) := by
    intro h; rw [hres.out, if_pos h]
  have hgood : Hid (¬ (bad = true ∨ m < v ∨ 2147483647 < v) → res = (v, zs, bad)) := by
    intro h; rw [hres.out, if_neg h]
  clear hres
  cases bad
  case true =>
    have hr := Lib.hid (hbadres.out (.inl rfl))
    clear hbadres hgood
    go_wp2_with (go_at_call 53; refine (hfail.out _ HI1.out).mono ?_; rintro e w' ⟨rfl, hI', hO⟩)
    go_ret
    rw [hr.out]
    exact ⟨rfl, hI', hO1.trans hO⟩
  case false =>
    by_cases h2 : m < v
    · have hr := Lib.hid (hbadres.out (.inr (.inl h2)))
      clear hbadres hgood
      go_wp2_with (go_at_call 53; refine (hfail.out _ HI1.out).mono ?_; rintro e w' ⟨rfl, hI', hO⟩)
      go_ret
      rw [hr.out]
      exact ⟨rfl, hI', hO1.trans hO⟩
    · have h2' : v ≤ m := by omega
      by_cases h3 : 2147483647 < v
      · have hr := Lib.hid (hbadres.out (.inr (.inr h3)))
        clear hbadres hgood
        go_wp2_with (go_at_call 53; refine (hfail.out _ HI1.out).mono ?_; rintro e w' ⟨rfl, hI', hO⟩)
        go_ret
        rw [hr.out]
        exact ⟨rfl, hI', hO1.trans hO⟩
      · have h3' : v ≤ 2147483647 := by omega
        have hr := Lib.hid (hgood.out (by simp; omega))
        clear hbadres hgood
        go_wp2
        go_ret
        rw [hr.out]
        exact ⟨rfl, HI1.out, hO1⟩
end Go.Proofs.YteaepgbakcifkaaDoor
