/- The walks of enc.In: what is read, what is left. -/
import Derived.Test.YteaepgbakcifkaaDoorEncOut
import Derived.Test.YteaepgbakcifkaaDoorStrs
import Derived.Test.YteaepgbakcifkaaDoorEncMath2
import Derived.OpenShut
set_option linter.unusedVariables false
set_option linter.unusedSimpArgs false
namespace Go.Proofs.YteaepgbakcifkaaDoor
open Go.RowKit
/-- the In at block p (of struct type t) has the bytes zs left, and is bad or not -/
def InAt (w : World) (t : TypeId) (p : Nat) (zs : List Int) (bad : Bool) : Prop :=
  ∃ a n c, w.heap[p]? = some (.cells #[.slice a n c, .bool bad] t (0, 0)) ∧ Sl .u8 w a n c zs ∧ inB a [p] ∧ IsB zs
set_option maxHeartbeats 400000 in
theorem in_fail (p : Nat) (zs : List Int) (bad : Bool) (w : World) (hI : InAt w 57 p zs bad) :
    Calls Tryd.prog 52 #[.pointer (some ⟨p, 0, none⟩)] w fun e w' => e = .returned (.tuple #[]) ∧ InAt w' 57 p [] true ∧ Only [p] w w' := by
  obtain ⟨a, n, c, hp, hS, hi, hB⟩ := hI
  have c0 := at_cell hp 0 _ rfl
  have c1 := at_cell hp 1 _ rfl
  have f0 := one_free hp 0
  have f1 := one_free hp 1
  go_enter Tryd.func52, Tryd.ntmps52
  go_wp2
  go_end0
  refine ⟨rfl, ⟨none, 0, 0, at_set (at_set hp 1 _) 0 _, sl_nil _ _, (by intro x hx; cases hx), (by intro i; simp)⟩, ((Only.refl _ _).setCell (by simp) _).setCell (by simp) _⟩
theorem and127 (v : Int) (h0 : 0 ≤ v) (h1 : v ≤ 255) : bits BinOp.and IntKind.u8 v 127 = v % 128 := by
  exact bits_mask .u8 8 (by decide) wraps_u8 7 (by decide) v h0 (by omega)
theorem or_shl (u x : Int) (k : Nat) (hu : 0 ≤ u) (hu2 : u ≤ 18446744073709551615) (hu1 : u < 2 ^ (7 * k)) (hx : 0 ≤ x) (hx1 : x * 2 ^ (7 * k) ≤ 18446744073709551615) :
    bits BinOp.or IntKind.u64 u (IntKind.u64.wrap (x * 2 ^ (7 * k))) = u + x * 2 ^ (7 * k) := by
  obtain ⟨a, rfl⟩ := Int.eq_ofNat_of_zero_le hu
  obtain ⟨b, rfl⟩ := Int.eq_ofNat_of_zero_le hx
  have e2 : ((2 : Int) ^ (7 * k)) = ((2 ^ (7 * k) : Nat) : Int) := by simp
  rw [e2] at hu1 hx1 ⊢
  rw [← Int.natCast_mul] at hx1 ⊢
  have ha : a < 2 ^ (7 * k) := by omega
  generalize hq : 2 ^ (7 * k) = q at *
  have hb : b * q ≤ 18446744073709551615 := by omega
  rw [IntKind.wrap_u64, Int.emod_eq_of_lt (by omega) (by omega)]
  rw [bits_or_u64_nat a (b * q) (by omega) (by omega), Nat.or_comm, Nat.mul_comm b q, ← hq, ← Nat.two_pow_add_eq_or_of_lt (hq ▸ ha) b]
  omega
theorem pow7 (k : Nat) (h : k ≤ 8) (x : Int) (h0 : 0 ≤ x) (h1 : x ≤ 127) : x * 2 ^ (7 * k) ≤ 18446744073709551615 ∧ 0 ≤ x * 2 ^ (7 * k) ∧ ∀ u : Int, u < 2 ^ (7 * k) → u + x * 2 ^ (7 * k) < 2 ^ (7 * (k + 1)) := by
  have : k = 0 ∨ k = 1 ∨ k = 2 ∨ k = 3 ∨ k = 4 ∨ k = 5 ∨ k = 6 ∨ k = 7 ∨ k = 8 := by omega
  rcases this with rfl | rfl | rfl | rfl | rfl | rfl | rfl | rfl | rfl <;> (simp only [Nat.reduceMul, Nat.reduceAdd, Int.reducePow]; exact ⟨by omega, by omega, fun u hu => by omega⟩)
theorem or_range (u y : Int) : 0 ≤ bits BinOp.or IntKind.u64 u y ∧ bits BinOp.or IntKind.u64 u y ≤ 18446744073709551615 :=
  wf_bd_u64 (wf_bits .or .u64 u y)
theorem rdV_none {zs : List Int} (h : rdU zs = none) : rdV zs = (0, [], true) := by unfold rdV; rw [h]
theorem rdV_some {zs r : List Int} {v : Int} (h : rdU zs = some (v, r)) : rdV zs = (v, r, false) := by unfold rdV; rw [h]
/-- the In is left with what stands behind -/
theorem inAt_cut {w : World} {t : TypeId} {p : Nat} {a : Option Addr} {n c : Nat} {zs : List Int} {bad : Bool} (hp : w.heap[p]? = some (.cells #[.slice a n c, .bool bad] t (0, 0))) (hS : Sl .u8 w a n c zs) (hi : inB a [p]) (hB : IsB zs) (k : Nat) (hk : k ≤ n) :
    InAt (w.setCell ⟨p, 0, none⟩ (.slice (cutA a c k 1) (n - k) (c - k))) t p (zs.drop k) bad := by
  have h := sl_cut hS k n hk (Nat.le_refl _)
  rw [show zs.take n = zs from List.take_of_length_le (by rw [hS.1]; exact Nat.le_refl _)] at h
  exact ⟨_, _, _, at_set hp 0 _, ((Only.refl [p] w).setCell (p := ⟨p, 0, none⟩) (by simp) _).sl h (cutA_inB hi _ _ _), cutA_inB hi _ _ _, isB_drop hB k⟩
set_option maxHeartbeats 1000000 in
theorem in_U (p : Nat) (zs : List Int) (w : World) (hI : InAt w 57 p zs false) :
    Calls Tryd.prog 30 #[.pointer (some ⟨p, 0, none⟩)] w fun e w' => e = .returned (.int .u64 (rdV zs).1) ∧ InAt w' 57 p (rdV zs).2.1 (rdV zs).2.2 ∧ Only [p] w w' ∧ 0 ≤ (rdV zs).1 ∧ (rdV zs).1 ≤ 18446744073709551615 := by
  have HI := Lib.hid hI
  obtain ⟨a, n, c, hp, hS, hi, hB⟩ := hI
  have HS := Lib.hid hS
  have HB := Lib.hid hB
  have c0 := at_cell hp 0 _ rfl
  have c1 := at_cell hp 1 _ rfl
  have f0 := one_free hp 0
  have hcm := hS.2.2.1
  have hnc := hS.2.1
  have HL := Lib.hid hS.1
  clear hS hB
  unfold maxLen at hcm
  have H0 : Hid (rdU zs = rdF (10 - 0) 0 0 (zs.drop 0)) := rfl
  go_enter Tryd.func30, Tryd.ntmps30
  go_wp2_with fail
  go_loop [3, 4] (fun v i => ∃ (u : Int) (k : Nat), 0 ≤ u ∧ u ≤ 18446744073709551615 ∧ k ≤ 10 ∧ k ≤ n ∧ v = .int .u64 u ∧ i = .int .i64 k ∧ Hid (k ≤ 9 → u < 2 ^ (7 * k)) ∧ Hid (∃ u', rdU zs = rdF (10 - k) k u' (zs.drop k) ∧ (k ≤ 9 → u' = u)))
    (fun _ i => 10 - (intOf i).toNat)
  case atStart => exact ⟨0, 0, by omega, by omega, by omega, by omega, rfl, rfl, fun _ => by simp, 0, H0, fun _ => rfl⟩
  case round =>
    obtain ⟨u, k, u0, u1, hk, hkn, rfl, rfl, hlo, hrd⟩ := hrel
    by_cases hlt : k < 10 ∧ k < n
    · obtain ⟨hk10, hlt⟩ := hlt
      obtain ⟨b, o, v, rfl, hc, hv⟩ := HS.out.at k hlt
      have hb : 0 ≤ v ∧ v ≤ 255 := by rw [hv.out]; exact HB.out k
      have hk10' : (k : Int) < 10 := by omega
      have hlt' : (k : Int) < n := by omega
      have ha := and127 v hb.1 hb.2
      have hw1 : IntKind.u64.wrap (v % 128) = v % 128 := by rw [IntKind.wrap_u64]; omega
      have hfail := Lib.hid (fun (W : World) (h : InAt W 57 p zs false) => in_fail p zs false W h)
      -- what one byte makes of it
      have hst : Hid (∃ u', rdU zs = (if 128 ≤ v then rdF (9 - k) (k + 1) (u' + (v % 128) * 2 ^ (7 * k)) (zs.drop (k + 1)) else if (v = 0 ∧ 0 < k) ∨ (k = 9 ∧ 1 < v) then none else some (u' + (v % 128) * 2 ^ (7 * k), zs.drop (k + 1))) ∧ u' = u) := by
        obtain ⟨u', h1, h2⟩ := hrd.out
        refine ⟨u', ?_, h2 (by omega)⟩
        rw [h1, show 10 - k = (9 - k) + 1 from by omega, rdF_step _ _ _ _ _ (by rw [HL.out]; exact hlt), ← hv.out]
      clear hrd
      by_cases hv1 : 128 ≤ v
      · go_wp2
        refine ⟨⟨_, k + 1, (or_range _ _).1, (or_range _ _).2, by omega, by omega, rfl, by go_num, ?_, ?_⟩, by simp [intOf]; omega⟩
        · intro h9
          obtain ⟨q1, q2, q3⟩ := pow7 k (by omega) (v % 128) (by omega) (by omega)
          rw [or_shl u _ k u0 u1 (hlo.out (by omega)) (by omega) q1]
          exact q3 u (hlo.out (by omega))
        · obtain ⟨u', h1, h2⟩ := hst.out
          rw [if_pos hv1] at h1
          refine ⟨_, by rw [h1, show 10 - (k + 1) = 9 - k from by omega], fun h9 => ?_⟩
          obtain ⟨q1, q2, q3⟩ := pow7 k (by omega) (v % 128) (by omega) (by omega)
          rw [or_shl u _ k u0 u1 (hlo.out (by omega)) (by omega) q1, h2]
      · have hv2 : v < 128 := by omega
        by_cases hbad : (v = 0 ∧ 0 < k) ∨ (k = 9 ∧ 1 < v)
        · have hnone : Hid (rdV zs = (0, [], true)) := by
            obtain ⟨u', h1, h2⟩ := hst.out
            rw [if_neg hv1, if_pos hbad] at h1
            exact rdV_none h1
          clear hst hlo
          rcases hbad with ⟨rfl, hk0⟩ | ⟨rfl, hb1⟩
          · have hk0' : (0 : Int) < k := by omega
            go_wp2_with (go_at_call 52; refine (hfail.out _ HI.out).mono ?_; rintro e w' ⟨rfl, hI', hO⟩)
            go_ret
            rw [hnone.out]
            exact ⟨rfl, hI', hO, by decide, by decide⟩
          · have hb0 : (v == 0) = false := by simp; omega
            go_wp2_with (go_at_call 52; refine (hfail.out _ HI.out).mono ?_; rintro e w' ⟨rfl, hI', hO⟩)
            go_ret
            rw [hnone.out]
            exact ⟨rfl, hI', hO, by decide, by decide⟩
        · have hok : k ≤ 8 ∨ v ≤ 1 := by omega
          have hval : Hid (bits BinOp.or IntKind.u64 u (IntKind.u64.wrap (v % 128 * 2 ^ (7 * k))) = u + v % 128 * 2 ^ (7 * k)) := by
            refine or_shl u _ k u0 u1 (hlo.out (by omega)) (by omega) ?_
            rcases hok with h | h
            · exact (pow7 k h (v % 128) (by omega) (by omega)).1
            · have : v % 128 ≤ 1 := by omega
              have h9 : k = 9 ∨ k ≤ 8 := by omega
              rcases h9 with rfl | h9
              · simp only [Nat.reduceMul, Int.reducePow]; omega
              · exact (pow7 k h9 (v % 128) (by omega) (by omega)).1
          have hsome : Hid (rdV zs = (u + v % 128 * 2 ^ (7 * k), zs.drop (k + 1), false)) := by
            obtain ⟨u', h1, h2⟩ := hst.out
            rw [if_neg hv1, if_neg hbad, h2] at h1
            exact rdV_some h1
          clear hst hlo
          have hsl := fun W => run_cut_l elemB (some ⟨b, o, none⟩) n c .i64 (k + 1) ((k : Int) + 1) (by omega) (by omega) W
          have hfin := Lib.hid (inAt_cut hp HS.out hi HB.out (k + 1) (by omega))
          by_cases h0 : v = 0
          · obtain rfl : k = 0 := by omega
            have hb0 : (v == 0) = true := by simp [h0]
            have hsl1 := fun W => run_cut_l elemB (some ⟨b, o, none⟩) n c .i64 1 1 rfl (by omega) W
            have hval1 : Hid (bits BinOp.or IntKind.u64 u (v % 128) = u + v % 128 * 2 ^ (7 * 0)) := by
              have := hval.out
              simp only [Nat.mul_zero, Int.pow_zero, Int.mul_one, hw1] at this ⊢
              exact this
            rw [Nat.add_zero] at hc
            clear h0 hbad hsl hval hk10' hlt'
            go_wp2
            go_ret
            rw [hsome.out]
            exact ⟨ret_int hval1.out, hfin.out, (Only.refl _ _).setCell (by simp) _, by rw [← hval1.out]; exact (or_range _ _).1, by rw [← hval1.out]; exact (or_range _ _).2⟩
          · have hb0 : (v == 0) = false := by simp; omega
            by_cases h9 : k = 9
            · have hv1' : v ≤ 1 := by omega
              have h9' : (7 * (k : Int) == 63) = true := by simp; omega
              clear h9 hbad h0
              go_wp2
              go_ret
              rw [hsome.out]
              exact ⟨ret_int hval.out, hfin.out, (Only.refl _ _).setCell (by simp) _, by rw [← hval.out]; exact (or_range _ _).1, by rw [← hval.out]; exact (or_range _ _).2⟩
            · have h9' : (7 * (k : Int) == 63) = false := by simp; omega
              clear h9 hbad h0
              go_wp2
              go_ret
              rw [hsome.out]
              exact ⟨ret_int hval.out, hfin.out, (Only.refl _ _).setCell (by simp) _, by rw [← hval.out]; exact (or_range _ _).1, by rw [← hval.out]; exact (or_range _ _).2⟩
    · have hnone : Hid (rdV zs = (0, [], true)) := by
        obtain ⟨u', h1, h2⟩ := hrd.out
        refine rdV_none (h1.trans ?_)
        by_cases h10 : k = 10
        · rw [h10]; rfl
        · exact rdF_end _ _ _ _ _ (by rw [HL.out]; omega)
      have hfail := Lib.hid (fun (W : World) (h : InAt W 57 p zs false) => in_fail p zs false W h)
      clear hrd hlo
      by_cases h10 : (k : Int) < 10
      · have hge : (n : Int) ≤ k := by omega
        clear hlt
        go_wp2_with (go_at_call 52; refine (hfail.out _ HI.out).mono ?_; rintro e w' ⟨rfl, hI', hO⟩)
        go_ret
        rw [hnone.out]
        exact ⟨rfl, hI', hO, by decide, by decide⟩
      · clear hlt
        go_wp2_with (go_at_call 52; refine (hfail.out _ HI.out).mono ?_; rintro e w' ⟨rfl, hI', hO⟩)
        go_ret
        rw [hnone.out]
        exact ⟨rfl, hI', hO, by decide, by decide⟩
end Go.Proofs.YteaepgbakcifkaaDoor
