/- The walks of enc.In once more: the block of the bytes is told. Printed by gen_msin.py. -/
import Derived.Test.YteaepgbakcifkaaDoorEncIn2
set_option linter.unusedVariables false
set_option linter.unusedSimpArgs false
namespace Go.Proofs.YteaepgbakcifkaaDoor
open Go.RowKit
/-- the In at block p has the bytes zs left (they lie in block bl), and is bad or not -/
def InB (bl : Nat) (w : World) (t : TypeId) (p : Nat) (zs : List Int) (bad : Bool) : Prop :=
  ∃ a n c, w.heap[p]? = some (.cells #[.slice a n c, .bool bad] t (0, 0)) ∧ Sl .u8 w a n c zs ∧ (∀ x, a = some x → x.block = bl) ∧ IsB zs
theorem blk_inB {a : Option Addr} {bl p : Nat} (h : ∀ x, a = some x → x.block = bl) (hbl : bl ≠ p) : inB a [p] := by
  intro x hx hm
  have := h x hx
  simp at hm
  omega
theorem cutA_blk {a : Option Addr} {bl : Nat} (h : ∀ x, a = some x → x.block = bl) (c lo size : Nat) : ∀ x, cutA a c lo size = some x → x.block = bl := by
  intro x hx
  unfold cutA at hx
  split at hx
  · exact h x hx
  · cases a with
    | none => simp at hx
    | some y =>
      simp at hx
      subst hx
      have := h y rfl
      unfold Addr.add; split <;> exact this
theorem inb_fail (bl p : Nat) (hbl : bl ≠ p) (zs : List Int) (bad : Bool) (w : World) (hI : InB bl w 57 p zs bad) :
    Calls Tryd.prog 52 #[.pointer (some ⟨p, 0, none⟩)] w fun e w' => e = .returned (.tuple #[]) ∧ InB bl w' 57 p [] true ∧ Only [p] w w' := by
  obtain ⟨a, n, c, hp, hS, hi, hB⟩ := hI
  have c0 := at_cell hp 0 _ rfl
  have c1 := at_cell hp 1 _ rfl
  have f0 := one_free hp 0
  have f1 := one_free hp 1
  go_enter Tryd.func52, Tryd.ntmps52
  go_wp2
  go_end0
  refine ⟨rfl, ⟨none, 0, 0, at_set (at_set hp 1 _) 0 _, sl_nil _ _, (by intro x hx; cases hx), (by intro i; simp)⟩, ((Only.refl _ _).setCell (by simp) _).setCell (by simp) _⟩
theorem inB_cut {w : World} {t : TypeId} {bl p : Nat} (hbl : bl ≠ p) {a : Option Addr} {n c : Nat} {zs : List Int} {bad : Bool} (hp : w.heap[p]? = some (.cells #[.slice a n c, .bool bad] t (0, 0))) (hS : Sl .u8 w a n c zs) (hi : ∀ x, a = some x → x.block = bl) (hB : IsB zs) (k : Nat) (hk : k ≤ n) :
    InB bl (w.setCell ⟨p, 0, none⟩ (.slice (cutA a c k 1) (n - k) (c - k))) t p (zs.drop k) bad := by
  have h := sl_cut hS k n hk (Nat.le_refl _)
  rw [show zs.take n = zs from List.take_of_length_le (by rw [hS.1]; exact Nat.le_refl _)] at h
  exact ⟨_, _, _, at_set hp 0 _, ((Only.refl [p] w).setCell (p := ⟨p, 0, none⟩) (by simp) _).sl h (cutA_inB (blk_inB hi hbl) _ _ _), cutA_blk hi _ _ _, isB_drop hB k⟩
theorem inb_U (bl p : Nat) (hbl : bl ≠ p) (zs : List Int) (w : World) (hI : InB bl w 57 p zs false) :
    Calls Tryd.prog 30 #[.pointer (some ⟨p, 0, none⟩)] w fun e w' => e = .returned (.int .u64 (rdV zs).1) ∧ InB bl w' 57 p (rdV zs).2.1 (rdV zs).2.2 ∧ Only [p] w w' ∧ 0 ≤ (rdV zs).1 ∧ (rdV zs).1 ≤ 18446744073709551615 := by
  have HI := Lib.hid hI
  obtain ⟨a, n, c, hp, hS, hi, hB⟩ := hI
  have HS := Lib.hid hS
  have HB := Lib.hid hB
  have c0 := at_cell hp 0 _ rfl
  have c1 := at_cell hp 1 _ rfl
  have f0 := one_free hp 0
  have hcm := hS.2.2.1
  have hnc := hS.2.1
  have HL := Lib.hid hS.1
  clear hS hB
  unfold maxLen at hcm
  have H0 : Hid (rdU zs = rdF (10 - 0) 0 0 (zs.drop 0)) := rfl
  go_enter Tryd.func30, Tryd.ntmps30
  go_wp2_with fail
  go_loop [3, 4] (fun v i => ∃ (u : Int) (k : Nat), 0 ≤ u ∧ u ≤ 18446744073709551615 ∧ k ≤ 10 ∧ k ≤ n ∧ v = .int .u64 u ∧ i = .int .i64 k ∧ Hid (k ≤ 9 → u < 2 ^ (7 * k)) ∧ Hid (∃ u', rdU zs = rdF (10 - k) k u' (zs.drop k) ∧ (k ≤ 9 → u' = u)))
    (fun _ i => 10 - (intOf i).toNat)
  case atStart => exact ⟨0, 0, by omega, by omega, by omega, by omega, rfl, rfl, fun _ => by simp, 0, H0, fun _ => rfl⟩
  case round =>
    obtain ⟨u, k, u0, u1, hk, hkn, rfl, rfl, hlo, hrd⟩ := hrel
    by_cases hlt : k < 10 ∧ k < n
    · obtain ⟨hk10, hlt⟩ := hlt
      obtain ⟨b, o, v, rfl, hc, hv⟩ := HS.out.at k hlt
      have hb : 0 ≤ v ∧ v ≤ 255 := by rw [hv.out]; exact HB.out k
      have hk10' : (k : Int) < 10 := by omega
      have hlt' : (k : Int) < n := by omega
      have ha := and127 v hb.1 hb.2
      have hw1 : IntKind.u64.wrap (v % 128) = v % 128 := by rw [IntKind.wrap_u64]; omega
      have hfail := Lib.hid (fun (W : World) (h : InB bl W 57 p zs false) => inb_fail bl p hbl zs false W h)
      -- what one byte makes of it
      have hst : Hid (∃ u', rdU zs = (if 128 ≤ v then rdF (9 - k) (k + 1) (u' + (v % 128) * 2 ^ (7 * k)) (zs.drop (k + 1)) else if (v = 0 ∧ 0 < k) ∨ (k = 9 ∧ 1 < v) then none else some (u' + (v % 128) * 2 ^ (7 * k), zs.drop (k + 1))) ∧ u' = u) := by
        obtain ⟨u', h1, h2⟩ := hrd.out
        refine ⟨u', ?_, h2 (by omega)⟩
        rw [h1, show 10 - k = (9 - k) + 1 from by omega, rdF_step _ _ _ _ _ (by rw [HL.out]; exact hlt), ← hv.out]
      clear hrd
      by_cases hv1 : 128 ≤ v
      · go_wp2
        refine ⟨⟨_, k + 1, (or_range _ _).1, (or_range _ _).2, by omega, by omega, rfl, by go_num, ?_, ?_⟩, by simp [intOf]; omega⟩
        · intro h9
          obtain ⟨q1, q2, q3⟩ := pow7 k (by omega) (v % 128) (by omega) (by omega)
          rw [or_shl u _ k u0 u1 (hlo.out (by omega)) (by omega) q1]
          exact q3 u (hlo.out (by omega))
        · obtain ⟨u', h1, h2⟩ := hst.out
          rw [if_pos hv1] at h1
          refine ⟨_, by rw [h1, show 10 - (k + 1) = 9 - k from by omega], fun h9 => ?_⟩
          obtain ⟨q1, q2, q3⟩ := pow7 k (by omega) (v % 128) (by omega) (by omega)
          rw [or_shl u _ k u0 u1 (hlo.out (by omega)) (by omega) q1, h2]
      · have hv2 : v < 128 := by omega
        by_cases hbad : (v = 0 ∧ 0 < k) ∨ (k = 9 ∧ 1 < v)
        · have hnone : Hid (rdV zs = (0, [], true)) := by
            obtain ⟨u', h1, h2⟩ := hst.out
            rw [if_neg hv1, if_pos hbad] at h1
            exact rdV_none h1
          clear hst hlo
          rcases hbad with ⟨rfl, hk0⟩ | ⟨rfl, hb1⟩
          · have hk0' : (0 : Int) < k := by omega
            go_wp2_with (go_at_call 52; refine (hfail.out _ HI.out).mono ?_; rintro e w' ⟨rfl, hI', hO⟩)
            go_ret
            rw [hnone.out]
            exact ⟨rfl, hI', hO, by decide, by decide⟩
          · have hb0 : (v == 0) = false := by simp; omega
            go_wp2_with (go_at_call 52; refine (hfail.out _ HI.out).mono ?_; rintro e w' ⟨rfl, hI', hO⟩)
            go_ret
            rw [hnone.out]
            exact ⟨rfl, hI', hO, by decide, by decide⟩
        · have hok : k ≤ 8 ∨ v ≤ 1 := by omega
          have hval : Hid (bits BinOp.or IntKind.u64 u (IntKind.u64.wrap (v % 128 * 2 ^ (7 * k))) = u + v % 128 * 2 ^ (7 * k)) := by
            refine or_shl u _ k u0 u1 (hlo.out (by omega)) (by omega) ?_
            rcases hok with h | h
            · exact (pow7 k h (v % 128) (by omega) (by omega)).1
            · have : v % 128 ≤ 1 := by omega
              have h9 : k = 9 ∨ k ≤ 8 := by omega
              rcases h9 with rfl | h9
              · simp only [Nat.reduceMul, Int.reducePow]; omega
              · exact (pow7 k h9 (v % 128) (by omega) (by omega)).1
          have hsome : Hid (rdV zs = (u + v % 128 * 2 ^ (7 * k), zs.drop (k + 1), false)) := by
            obtain ⟨u', h1, h2⟩ := hst.out
            rw [if_neg hv1, if_neg hbad, h2] at h1
            exact rdV_some h1
          clear hst hlo
          have hsl := fun W => run_cut_l elemB (some ⟨b, o, none⟩) n c .i64 (k + 1) ((k : Int) + 1) (by omega) (by omega) W
          have hfin := Lib.hid (inB_cut hbl hp HS.out hi HB.out (k + 1) (by omega))
          by_cases h0 : v = 0
          · obtain rfl : k = 0 := by omega
            have hb0 : (v == 0) = true := by simp [h0]
            have hsl1 := fun W => run_cut_l elemB (some ⟨b, o, none⟩) n c .i64 1 1 rfl (by omega) W
            have hval1 : Hid (bits BinOp.or IntKind.u64 u (v % 128) = u + v % 128 * 2 ^ (7 * 0)) := by
              have := hval.out
              simp only [Nat.mul_zero, Int.pow_zero, Int.mul_one, hw1] at this ⊢
              exact this
            rw [Nat.add_zero] at hc
            clear h0 hbad hsl hval hk10' hlt'
            go_wp2
            go_ret
            rw [hsome.out]
            exact ⟨ret_int hval1.out, hfin.out, (Only.refl _ _).setCell (by simp) _, by rw [← hval1.out]; exact (or_range _ _).1, by rw [← hval1.out]; exact (or_range _ _).2⟩
          · have hb0 : (v == 0) = false := by simp; omega
            by_cases h9 : k = 9
            · have hv1' : v ≤ 1 := by omega
              have h9' : (7 * (k : Int) == 63) = true := by simp; omega
              clear h9 hbad h0
              go_wp2
              go_ret
              rw [hsome.out]
              exact ⟨ret_int hval.out, hfin.out, (Only.refl _ _).setCell (by simp) _, by rw [← hval.out]; exact (or_range _ _).1, by rw [← hval.out]; exact (or_range _ _).2⟩
            · have h9' : (7 * (k : Int) == 63) = false := by simp; omega
              clear h9 hbad h0
              go_wp2
              go_ret
              rw [hsome.out]
              exact ⟨ret_int hval.out, hfin.out, (Only.refl _ _).setCell (by simp) _, by rw [← hval.out]; exact (or_range _ _).1, by rw [← hval.out]; exact (or_range _ _).2⟩
    · have hnone : Hid (rdV zs = (0, [], true)) := by
        obtain ⟨u', h1, h2⟩ := hrd.out
        refine rdV_none (h1.trans ?_)
        by_cases h10 : k = 10
        · rw [h10]; rfl
        · exact rdF_end _ _ _ _ _ (by rw [HL.out]; omega)
      have hfail := Lib.hid (fun (W : World) (h : InB bl W 57 p zs false) => inb_fail bl p hbl zs false W h)
      clear hrd hlo
      by_cases h10 : (k : Int) < 10
      · have hge : (n : Int) ≤ k := by omega
        clear hlt
        go_wp2_with (go_at_call 52; refine (hfail.out _ HI.out).mono ?_; rintro e w' ⟨rfl, hI', hO⟩)
        go_ret
        rw [hnone.out]
        exact ⟨rfl, hI', hO, by decide, by decide⟩
      · clear hlt
        go_wp2_with (go_at_call 52; refine (hfail.out _ HI.out).mono ?_; rintro e w' ⟨rfl, hI', hO⟩)
        go_ret
        rw [hnone.out]
        exact ⟨rfl, hI', hO, by decide, by decide⟩
theorem inb_U_bad (bl p : Nat) (hbl : bl ≠ p) (zs : List Int) (w : World) (hI : InB bl w 57 p zs true) :
    Calls Tryd.prog 30 #[.pointer (some ⟨p, 0, none⟩)] w fun e w' => e = .returned (.int .u64 0) ∧ InB bl w' 57 p [] true ∧ Only [p] w w' := by
  have HI := Lib.hid hI
  obtain ⟨a, n, c, hp, hS, hi, hB⟩ := hI
  have c1 := at_cell hp 1 _ rfl
  have hfail := Lib.hid (fun (W : World) (h : InB bl W 57 p zs true) => inb_fail bl p hbl zs true W h)
  clear hS hB
  go_enter Tryd.func30, Tryd.ntmps30
  go_wp2_with fail
  refine wp_loop_rounds 1 ?_
  rw [rounds_succ]
  go_wp2_with (go_at_call 52; refine (hfail.out _ HI.out).mono ?_; rintro e w' ⟨rfl, hI', hO⟩)
  go_ret
  exact ⟨rfl, hI', hO⟩
theorem inb_U_any (bl p : Nat) (hbl : bl ≠ p) (s : St) (w : World) (hI : InB bl w 57 p s.1 s.2) :
    Calls Tryd.prog 30 #[.pointer (some ⟨p, 0, none⟩)] w fun e w' => e = .returned (.int .u64 (stU s).1) ∧ InB bl w' 57 p (stU s).2.1 (stU s).2.2 ∧ Only [p] w w' ∧ 0 ≤ (stU s).1 ∧ (stU s).1 ≤ 18446744073709551615 := by
  obtain ⟨zs, b⟩ := s
  cases b
  · exact inb_U bl p hbl zs w hI
  · exact (inb_U_bad bl p hbl zs w hI).mono fun e w' ⟨h1, h2, h3⟩ => ⟨h1, h2, h3, by show (0 : Int) ≤ 0; omega, by show (0 : Int) ≤ 18446744073709551615; omega⟩
theorem inb_End (bl p : Nat) (hbl : bl ≠ p) (s : St) (w : World) (hI : InB bl w 57 p s.1 s.2) :
    Calls Tryd.prog 32 #[.pointer (some ⟨p, 0, none⟩)] w fun e w' => e = .returned (.bool (!s.2 && s.1.isEmpty)) ∧ w = w' := by
  obtain ⟨zs, b⟩ := s
  obtain ⟨a, n, c, hp, hS, hi, hB⟩ := hI
  have c0 := at_cell hp 0 _ rfl
  have c1 := at_cell hp 1 _ rfl
  have hl := hS.1
  have hcm := hS.2.2.1
  unfold maxLen at hcm
  have hfin : Hid ((((n : Int) == 0)) = zs.isEmpty) := by
    unfold Hid; subst hl; cases zs <;> simp; omega
  clear hS hB hi hp hl
  dsimp only at *
  cases b
  · go_enter Tryd.func32, Tryd.ntmps32
    go_wp2
    go_ret
    exact ⟨ret_bool hfin.out, rfl⟩
  · go_enter Tryd.func32, Tryd.ntmps32
    go_wp2
    go_ret
    exact ⟨rfl, rfl⟩
theorem inb_S (bl p : Nat) (hbl : bl ≠ p) (s : St) (m : Int) (w : World) (hm0 : -9223372036854775808 ≤ m) (hm1 : m ≤ 9223372036854775807) (hI : InB bl w 57 p s.1 s.2) :
    Calls Tryd.prog 31 #[.pointer (some ⟨p, 0, none⟩), .int .i64 m] w fun e w' => e = .returned (.string (strOf (stS m s).1)) ∧ InB bl w' 57 p (stS m s).2.1 (stS m s).2.2 ∧ Only [p] w w' := by
  have HI := Lib.hid (inb_U_any bl p hbl s w hI)
  clear hI
  have hres := Lib.hid (show stS m s = if (stU s).2.2 = true ∨ m < 0 ∨ m < (stU s).1 ∨ ((stU s).2.1.length : Int) < (stU s).1 then ([], [], true) else ((stU s).2.1.take (stU s).1.toNat, (stU s).2.1.drop (stU s).1.toNat, false) from rfl)
  generalize stS m s = res at *
  go_enter Tryd.func31, Tryd.ntmps31
  go_wp2_with fail
  refine HI.out.mono ?_
  clear HI
  rintro e w1 ⟨rfl, hI1, hO1, hb0, hb1⟩
  generalize stU s = r at *
  obtain ⟨v, zs, bad⟩ := r
  dsimp only at *
  have HI1 := Lib.hid hI1
  obtain ⟨a, n, c, hp, hS, hi, hB⟩ := hI1
  have c0 := at_cell hp 0 _ rfl
  have c1 := at_cell hp 1 _ rfl
  have f0 := one_free hp 0
  have HS := Lib.hid hS
  have HB := Lib.hid hB
  have hcm := hS.2.2.1
  have hnc := hS.2.1
  have HL := Lib.hid hS.1
  clear hS hB
  unfold maxLen at hcm
  have hfail := Lib.hid (fun (W : World) (h : InB bl W 57 p zs bad) => inb_fail bl p hbl zs bad W h)
  have hbadres : Hid ((bad = true ∨ m < 0 ∨ m < v ∨ (n : Int) < v) → res = ([], [], true)) := by
    intro h; rw [hres.out, if_pos]; rw [HL.out]; exact h
  have hgood : Hid (¬ (bad = true ∨ m < 0 ∨ m < v ∨ (n : Int) < v) → res = (zs.take v.toNat, zs.drop v.toNat, false)) := by
    intro h; rw [hres.out, if_neg]; rw [HL.out]; exact h
  clear hres
  cases bad
  case true =>
    have hr := Lib.hid (hbadres.out (.inl rfl))
    clear hbadres hgood
    go_wp2_with (go_at_call 52; refine (hfail.out _ HI1.out).mono ?_; rintro e w' ⟨rfl, hI', hO⟩)
    go_ret
    rw [hr.out]
    exact ⟨rfl, hI', hO1.trans hO⟩
  case false =>
    by_cases h1 : m < 0
    · have hr := Lib.hid (hbadres.out (.inr (.inl h1)))
      clear hbadres hgood
      go_wp2_with (go_at_call 52; refine (hfail.out _ HI1.out).mono ?_; rintro e w' ⟨rfl, hI', hO⟩)
      go_ret
      rw [hr.out]
      exact ⟨rfl, hI', hO1.trans hO⟩
    · have h1' : 0 ≤ m := by omega
      by_cases h2 : m < v
      · have hr := Lib.hid (hbadres.out (.inr (.inr (.inl h2))))
        clear hbadres hgood
        go_wp2_with (go_at_call 52; refine (hfail.out _ HI1.out).mono ?_; rintro e w' ⟨rfl, hI', hO⟩)
        go_ret
        rw [hr.out]
        exact ⟨rfl, hI', hO1.trans hO⟩
      · have h2' : v ≤ m := by omega
        by_cases h3 : (n : Int) < v
        · have hr := Lib.hid (hbadres.out (.inr (.inr (.inr h3))))
          clear hbadres hgood
          go_wp2_with (go_at_call 52; refine (hfail.out _ HI1.out).mono ?_; rintro e w' ⟨rfl, hI', hO⟩)
          go_ret
          rw [hr.out]
          exact ⟨rfl, hI', hO1.trans hO⟩
        · have hr := Lib.hid (hgood.out (by simp; omega))
          clear hbadres hgood
          obtain ⟨k, rfl⟩ := Int.eq_ofNat_of_zero_le hb0
          have hkn : k ≤ n := by omega
          have hs1 := fun W => run_cut_h elemB a n c .u64 k (k : Int) rfl (by omega) W
          have hs2 := fun W => run_cut_l elemB a n c .u64 k (k : Int) rfl hkn W
          have hs3 := run_str (P := Tryd.prog) 27 9 5 Tryd.underlying27 Tryd.underlying5 Tryd.underlying9 (sl_take HS.out k hkn)
          have hfin := Lib.hid (inB_cut hbl hp HS.out hi HB.out k hkn)
          go_wp2
          go_ret
          rw [hr.out]
          exact ⟨by rw [Int.toNat_natCast]; rfl, by rw [Int.toNat_natCast]; exact hfin.out, hO1.setCell (by simp) _⟩
theorem inb_Small (bl p : Nat) (hbl : bl ≠ p) (s : St) (m : Int) (w : World) (hm0 : 0 ≤ m) (hm1 : m ≤ 18446744073709551615) (hI : InB bl w 57 p s.1 s.2) :
    Calls Tryd.prog 29 #[.pointer (some ⟨p, 0, none⟩), .int .u64 m] w fun e w' => e = .returned (.int .i64 (stSmall m s).1) ∧ InB bl w' 57 p (stSmall m s).2.1 (stSmall m s).2.2 ∧ Only [p] w w' := by
  have HI := Lib.hid (inb_U_any bl p hbl s w hI)
  clear hI
  have hres := Lib.hid (show stSmall m s = if (stU s).2.2 = true ∨ m < (stU s).1 ∨ 2147483647 < (stU s).1 then (0, [], true) else ((stU s).1, (stU s).2) from rfl)
  generalize stSmall m s = res at *
  go_enter Tryd.func29, Tryd.ntmps29
  go_wp2_with fail
  refine HI.out.mono ?_
  clear HI
  rintro e w1 ⟨rfl, hI1, hO1, hb0, hb1⟩
  generalize stU s = r at *
  obtain ⟨v, zs, bad⟩ := r
  dsimp only at *
  have HI1 := Lib.hid hI1
  obtain ⟨a, n, c, hp, hS, hi, hB⟩ := hI1
  have c1 := at_cell hp 1 _ rfl
  clear hS hB
  have hfail := Lib.hid (fun (W : World) (h : InB bl W 57 p zs bad) => inb_fail bl p hbl zs bad W h)
  have hbadres : Hid ((bad = true ∨ m < v ∨ 2147483647 < v) → res = (0, [], true)) := by
    intro h; rw [hres.out, if_pos h]
  have hgood : Hid (¬ (bad = true ∨ m < v ∨ 2147483647 < v) → res = (v, zs, bad)) := by
    intro h; rw [hres.out, if_neg h]
  clear hres
  cases bad
  case true =>
    have hr := Lib.hid (hbadres.out (.inl rfl))
    clear hbadres hgood
    go_wp2_with (go_at_call 52; refine (hfail.out _ HI1.out).mono ?_; rintro e w' ⟨rfl, hI', hO⟩)
    go_ret
    rw [hr.out]
    exact ⟨rfl, hI', hO1.trans hO⟩
  case false =>
    by_cases h2 : m < v
    · have hr := Lib.hid (hbadres.out (.inr (.inl h2)))
      clear hbadres hgood
      go_wp2_with (go_at_call 52; refine (hfail.out _ HI1.out).mono ?_; rintro e w' ⟨rfl, hI', hO⟩)
      go_ret
      rw [hr.out]
      exact ⟨rfl, hI', hO1.trans hO⟩
    · have h2' : v ≤ m := by omega
      by_cases h3 : 2147483647 < v
      · have hr := Lib.hid (hbadres.out (.inr (.inr h3)))
        clear hbadres hgood
        go_wp2_with (go_at_call 52; refine (hfail.out _ HI1.out).mono ?_; rintro e w' ⟨rfl, hI', hO⟩)
        go_ret
        rw [hr.out]
        exact ⟨rfl, hI', hO1.trans hO⟩
      · have h3' : v ≤ 2147483647 := by omega
        have hr := Lib.hid (hgood.out (by simp; omega))
        clear hbadres hgood
        go_wp2
        go_ret
        rw [hr.out]
        exact ⟨rfl, HI1.out, hO1⟩
end Go.Proofs.YteaepgbakcifkaaDoor
