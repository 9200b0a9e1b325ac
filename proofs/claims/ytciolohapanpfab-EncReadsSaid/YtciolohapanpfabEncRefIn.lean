/- The walks of the document's own In: what is read, what is left. -/
import Derived.Test.YtciolohapanpfabEncIn2
set_option linter.unusedVariables false
set_option linter.unusedSimpArgs false
namespace Go.Proofs.Ytciolohapanpfab
open Go.RowKit
set_option maxHeartbeats 400000 in
theorem rin_fail (p : Nat) (zs : List Int) (bad : Bool) (w : World) (hI : InAt w 45 p zs bad) :
    Calls Try.prog 25 #[.pointer (some ⟨p, 0, none⟩)] w fun e w' => e = .returned (.tuple #[]) ∧ InAt w' 45 p [] true ∧ Only [p] w w' := by
  obtain ⟨a, n, c, hp, hS, hi, hB⟩ := hI
  have c0 := at_cell hp 0 _ rfl
  have c1 := at_cell hp 1 _ rfl
  have f0 := one_free hp 0
  have f1 := one_free hp 1
  go_enter Try.func25, Try.ntmps25
  go_wp2
  go_end0
  refine ⟨rfl, ⟨none, 0, 0, at_set (at_set hp 1 _) 0 _, sl_nil _ _, (by intro x hx; cases hx), (by intro i; simp)⟩, ((Only.refl _ _).setCell (by simp) _).setCell (by simp) _⟩
set_option maxHeartbeats 400000 in
theorem ref_unfold (u : Int) (w : World) (h0 : 0 ≤ u) (h1 : u ≤ 18446744073709551615) :
    Calls Try.prog 26 #[.int .u64 u] w fun e w' => e = .returned (.int .i64 (unfold u)) ∧ w = w' := by
  by_cases h : u % 2 = 0
  · have hb : (u % 2 == 0) = true := by simp [h]
    have hr : unfold u = u / 2 := by unfold unfold; rw [if_pos h]
    rw [hr]
    clear h hr
    go_enter Try.func26, Try.ntmps26
    go_wp2
    go_ret
    exact ⟨rfl, rfl⟩
  · have hb : (u % 2 == 0) = false := by simp [h]
    have hr : unfold u = -(u / 2) - 1 := by unfold unfold; rw [if_neg h]; omega
    rw [hr]
    clear h hr
    go_enter Try.func26, Try.ntmps26
    go_wp2
    go_ret
    exact ⟨rfl, rfl⟩
theorem wrap_range (x : Int) : 0 ≤ IntKind.u64.wrap x ∧ IntKind.u64.wrap x ≤ 18446744073709551615 := by rw [IntKind.wrap_u64]; omega
theorem wrap_same (x : Int) (h0 : 0 ≤ x) (h1 : x ≤ 18446744073709551615) : IntKind.u64.wrap x = x := by rw [IntKind.wrap_u64]; omega
set_option maxHeartbeats 1000000 in
theorem rin_U (p : Nat) (zs : List Int) (w : World) (hI : InAt w 45 p zs false) :
    Calls Try.prog 16 #[.pointer (some ⟨p, 0, none⟩)] w fun e w' => e = .returned (.int .u64 (rdV zs).1) ∧ InAt w' 45 p (rdV zs).2.1 (rdV zs).2.2 ∧ Only [p] w w' ∧ 0 ≤ (rdV zs).1 ∧ (rdV zs).1 ≤ 18446744073709551615 := by
  have HI := Lib.hid hI
  obtain ⟨a, n, c, hp, hS, hi, hB⟩ := hI
  have HS := Lib.hid hS
  have HB := Lib.hid hB
  have c0 := at_cell hp 0 _ rfl
  have c1 := at_cell hp 1 _ rfl
  have f0 := one_free hp 0
  have hcm := hS.2.2.1
  have hnc := hS.2.1
  have HL := Lib.hid hS.1
  clear hS hB
  unfold maxLen at hcm
  have H0 : Hid (rdU zs = rdF (10 - 0) 0 0 (zs.drop 0)) := rfl
  go_enter Try.func16, Try.ntmps16
  go_wp2_with fail
  go_loop [3, 4, 5] (fun v t i => ∃ (u q : Int) (k : Nat), 0 ≤ u ∧ u ≤ 18446744073709551615 ∧ 0 ≤ q ∧ q ≤ 18446744073709551615 ∧ k ≤ 10 ∧ k ≤ n ∧ v = .int .u64 u ∧ t = .int .u64 q ∧ i = .int .i64 k ∧ Hid (k ≤ 9 → u < 2 ^ (7 * k) ∧ q = 2 ^ (7 * k)) ∧ Hid (∃ u', rdU zs = rdF (10 - k) k u' (zs.drop k) ∧ (k ≤ 9 → u' = u)))
    (fun _ _ i => 10 - (intOf i).toNat)
  case atStart => exact ⟨0, 1, 0, by omega, by omega, by omega, by omega, by omega, by omega, rfl, rfl, rfl, fun _ => by simp, 0, H0, fun _ => rfl⟩
  case round =>
    obtain ⟨u, q, k, u0, u1, q0, q1, hk, hkn, rfl, rfl, rfl, hlo, hrd⟩ := hrel
    have hfail := Lib.hid (fun (W : World) (h : InAt W 45 p zs false) => rin_fail p zs false W h)
    by_cases hlt : k < 10 ∧ k < n
    · obtain ⟨hk10, hlt⟩ := hlt
      obtain ⟨b, o, v, rfl, hc, hv⟩ := HS.out.at k hlt
      have hb : 0 ≤ v ∧ v ≤ 255 := by rw [hv.out]; exact HB.out k
      obtain ⟨hb0, hb1⟩ := hb
      have hk10' : (k : Int) < 10 := by omega
      have hlt' : (k : Int) < n := by omega
      have hst : Hid (∃ u', rdU zs = (if 128 ≤ v then rdF (9 - k) (k + 1) (u' + (v % 128) * 2 ^ (7 * k)) (zs.drop (k + 1)) else if (v = 0 ∧ 0 < k) ∨ (k = 9 ∧ 1 < v) then none else some (u' + (v % 128) * 2 ^ (7 * k), zs.drop (k + 1))) ∧ u' = u) := by
        obtain ⟨u', h1, h2⟩ := hrd.out
        refine ⟨u', ?_, h2 (by omega)⟩
        rw [h1, show 10 - k = (9 - k) + 1 from by omega, rdF_step _ _ _ _ _ (by rw [HL.out]; exact hlt), ← hv.out]
      clear hrd
      by_cases hk9 : k = 9 ∧ 1 < v
      · have hnone : Hid (rdV zs = (0, [], true)) := by
          obtain ⟨u', h1, h2⟩ := hst.out
          refine rdV_none (h1.trans ?_)
          obtain ⟨rfl, h9⟩ := hk9
          split
          · rfl
          · rw [if_pos (.inr ⟨rfl, h9⟩)]
        clear hst hlo
        obtain ⟨rfl, h9⟩ := hk9
        go_wp2_with (go_at_call 25; refine (hfail.out _ HI.out).mono ?_; rintro e w' ⟨rfl, hI', hO⟩)
        go_ret
        rw [hnone.out]
        exact ⟨rfl, hI', hO, by decide, by decide⟩
      · have hok : k ≤ 8 ∨ v ≤ 1 := by omega
        have hy : Hid (0 ≤ v % 128 * q ∧ v % 128 * q ≤ 18446744073709551615 ∧ u + v % 128 * q ≤ 18446744073709551615 ∧ v % 128 * q = v % 128 * 2 ^ (7 * k) ∧ (k ≤ 8 → u + v % 128 * q < 2 ^ (7 * (k + 1)) ∧ IntKind.u64.wrap (q * 128) = 2 ^ (7 * (k + 1)))) := by
          obtain ⟨l1, l2⟩ := hlo.out (by omega)
          subst l2
          rcases hok with h | h
          · obtain ⟨p1, p2, p3⟩ := pow7 k h (v % 128) (by omega) (by omega)
            have hlt2 : (2 : Int) ^ (7 * (k + 1)) ≤ 9223372036854775808 := by
              have : k = 0 ∨ k = 1 ∨ k = 2 ∨ k = 3 ∨ k = 4 ∨ k = 5 ∨ k = 6 ∨ k = 7 ∨ k = 8 := by omega
              rcases this with rfl | rfl | rfl | rfl | rfl | rfl | rfl | rfl | rfl <;> simp
            have h3 := p3 u l1
            refine ⟨p2, p1, by omega, rfl, fun _ => ⟨h3, ?_⟩⟩
            have e7 : (2 : Int) ^ (7 * (k + 1)) = 2 ^ (7 * k) * 128 := by rw [Nat.mul_add, Int.pow_add]; rfl
            rw [← e7]
            exact wrap_same _ (by omega) (by omega)
          · have h9 : k = 9 ∨ k ≤ 8 := by omega
            rcases h9 with rfl | h9
            · have hv1 : v % 128 = v := by omega
              simp only [Nat.reduceMul, Int.reducePow] at l1 ⊢
              exact ⟨by omega, by omega, by omega, by trivial, fun hh => by omega⟩
            · obtain ⟨p1, p2, p3⟩ := pow7 k h9 (v % 128) (by omega) (by omega)
              have hlt2 : (2 : Int) ^ (7 * (k + 1)) ≤ 9223372036854775808 := by
                have : k = 0 ∨ k = 1 ∨ k = 2 ∨ k = 3 ∨ k = 4 ∨ k = 5 ∨ k = 6 ∨ k = 7 ∨ k = 8 := by omega
                rcases this with rfl | rfl | rfl | rfl | rfl | rfl | rfl | rfl | rfl <;> simp
              have h3 := p3 u l1
              refine ⟨p2, p1, by omega, rfl, fun _ => ⟨h3, ?_⟩⟩
              have e7 : (2 : Int) ^ (7 * (k + 1)) = 2 ^ (7 * k) * 128 := by rw [Nat.mul_add, Int.pow_add]; rfl
              rw [← e7]
              exact wrap_same _ (by omega) (by omega)
        have y0 := hy.out.1
        have y1 := hy.out.2.1
        have y2 := hy.out.2.2.1
        have hw1 := wrap_same _ y0 y1
        have hw2 := wrap_same (u + v % 128 * q) (by omega) y2
        have hmod : Hid (v % 128 ≤ 127) := by unfold Hid; omega
        by_cases hv1 : 128 ≤ v
        · have hk9' : ((k : Int) == 9) = false := by simp; omega
          clear hk9
          have hk8 : k ≤ 8 := by omega
          go_wp2
          refine ⟨⟨_, _, k + 1, ?_, ?_, (wrap_range _).1, (wrap_range _).2, by omega, by omega, rfl, rfl, by go_num, ?_, ?_⟩, by simp [intOf]; omega⟩
          · omega
          · exact y2
          · intro h9
            exact hy.out.2.2.2.2 hk8
          · obtain ⟨u', h1, h2⟩ := hst.out
            rw [if_pos hv1] at h1
            exact ⟨_, by rw [h1, show 10 - (k + 1) = 9 - k from by omega], fun _ => by rw [h2, hy.out.2.2.2.1]⟩
        · have hv2 : v < 128 := by omega
          have hvm : Hid (v % 128 = v) := by unfold Hid; omega
          by_cases hz : v = 0 ∧ 0 < k
          · have hnone : Hid (rdV zs = (0, [], true)) := by
              obtain ⟨u', h1, h2⟩ := hst.out
              rw [if_neg hv1, if_pos (.inl hz)] at h1
              exact rdV_none h1
            obtain ⟨rfl, hk0⟩ := hz
            have hk0' : (0 : Int) < k := by omega
            have h91 : ¬ (1 : Int) < 0 := by omega
            clear hst hlo hy hv1 hok hk9 hvm
            by_cases hkk : k = 9
            · have hkb : ((k : Int) == 9) = true := by simp; omega
              clear hkk
              go_wp2_with (go_at_call 25; refine (hfail.out _ HI.out).mono ?_; rintro e w' ⟨rfl, hI', hO⟩)
              go_ret
              rw [hnone.out]
              exact ⟨rfl, hI', hO, by decide, by decide⟩
            · have hkb : ((k : Int) == 9) = false := by simp; omega
              clear hkk
              go_wp2_with (go_at_call 25; refine (hfail.out _ HI.out).mono ?_; rintro e w' ⟨rfl, hI', hO⟩)
              go_ret
              rw [hnone.out]
              exact ⟨rfl, hI', hO, by decide, by decide⟩
          · have hsome : Hid (rdV zs = (u + v % 128 * q, zs.drop (k + 1), false)) := by
              obtain ⟨u', h1, h2⟩ := hst.out
              rw [if_neg hv1, if_neg (fun h => h.elim hz hk9), h2] at h1
              rw [hy.out.2.2.2.1]
              exact rdV_some h1
            have hfin := Lib.hid (inAt_cut hp HS.out hi HB.out (k + 1) (by omega))
            have hsl := fun W => run_cut_l elemB (some ⟨b, o, none⟩) n c .i64 (k + 1) ((k : Int) + 1) (by omega) (by omega) W
            have hval := Lib.hid (hy.out).2.2.2.1
            have y0' : 0 ≤ u + v % 128 * q := by omega
            clear hst hlo hy hok hval
            by_cases h0 : v = 0
            · obtain rfl : k = 0 := by omega
              have hb0 : (v == 0) = true := by simp [h0]
              have hsl1 := fun W => run_cut_l elemB (some ⟨b, o, none⟩) n c .i64 1 1 rfl (by omega) W
              rw [Nat.add_zero] at hc
              clear h0 hz hk9 hsl hk10' hlt'
              go_wp2
              go_ret
              rw [hsome.out]
              exact ⟨rfl, hfin.out, (Only.refl _ _).setCell (by simp) _, y0', y2⟩
            · have hb0 : (v == 0) = false := by simp; omega
              by_cases h9 : k = 9
              · have hv1' : v ≤ 1 := by omega
                have h9' : ((k : Int) == 9) = true := by simp; omega
                clear h9 hz hk9 h0
                go_wp2
                go_ret
                rw [hsome.out]
                exact ⟨rfl, hfin.out, (Only.refl _ _).setCell (by simp) _, y0', y2⟩
              · have h9' : ((k : Int) == 9) = false := by simp; omega
                clear h9 hz hk9 h0
                go_wp2
                go_ret
                rw [hsome.out]
                exact ⟨rfl, hfin.out, (Only.refl _ _).setCell (by simp) _, y0', y2⟩
    · have hnone : Hid (rdV zs = (0, [], true)) := by
        obtain ⟨u', h1, h2⟩ := hrd.out
        refine rdV_none (h1.trans ?_)
        by_cases h10 : k = 10
        · rw [h10]; rfl
        · exact rdF_end _ _ _ _ _ (by rw [HL.out]; omega)
      clear hrd hlo
      by_cases h10 : (k : Int) < n
      · have hge : (10 : Int) ≤ k := by omega
        clear hlt
        go_wp2_with (go_at_call 25; refine (hfail.out _ HI.out).mono ?_; rintro e w' ⟨rfl, hI', hO⟩)
        go_ret
        rw [hnone.out]
        exact ⟨rfl, hI', hO, by decide, by decide⟩
      · clear hlt
        go_wp2_with (go_at_call 25; refine (hfail.out _ HI.out).mono ?_; rintro e w' ⟨rfl, hI', hO⟩)
        go_ret
        rw [hnone.out]
        exact ⟨rfl, hI', hO, by decide, by decide⟩
end Go.Proofs.Ytciolohapanpfab
