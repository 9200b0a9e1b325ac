/- Cut: the table of the records below a place. -/
import Derived.Test.YtmkoabalakfehaaEpAdd
import Derived.Test.YtmkoabalakfehaaEpAt
import Derived.Deep.QuietTactic
set_option linter.unusedVariables false
set_option linter.unusedSimpArgs false
namespace Go.Proofs.Ytmkoabalakfehaa
open Go.RowKit
theorem cut1 (s off : Int) (q : Nat) (w : World) (s0 : 0 ≤ s) (s1 : s ≤ 18446744073709551615) (hq : w.cell? ⟨q, 0, none⟩ = some (.int .i64 off)) :
    Calls Try.prog 41 #[.int .u64 s, .pointer (some ⟨q, 0, none⟩)] w fun e w' => e = .returned (.bool (decide (off ≤ ofI s))) ∧ Dr w w' := by
  go_enter Try.func41, Try.ntmps41
  go_wp2_with fail
  go_quiet ((go_at_call 28; exact Calls.quiet_of_same (unflip (stamp_off _ _ (by omega) (by omega)))))
  go_wp2
  go_ret
  exact ⟨rfl, (Dr.refl _).drewN _⟩
set_option maxHeartbeats 1000000 in
theorem ep_idxf (a : Option Addr) (n c k : Nat) (L : List Int) (off : Int) (q : Nat) (w : World) (hS : Sl .u64 w a n c L) (hW : IsW L) (hq : w.cell? ⟨q, 0, none⟩ = some (.int .i64 off)) (hk : k ≤ n) (h1 : ∀ j, j < k → ofI (L.getD j 0) < off) (h2 : ∀ j, k ≤ j → j < n → off ≤ ofI (L.getD j 0)) :
    Calls Try.prog 51 #[.slice a n c, .func (.func 41) #[] #[.pointer (some ⟨q, 0, none⟩)]] w fun e w' => e = .returned (.int .i64 (if k < n then (k : Int) else -1)) ∧ Dr w w' := by
  have hnc := hS.2.1
  have hcm := hS.2.2.1
  unfold maxLen at hcm
  have HS := Lib.hid hS
  have HW := Lib.hid hW
  have HQ := Lib.hid hq
  have H1 := Lib.hid h1
  have H2 := Lib.hid h2
  clear hS hW hq h1 h2
  go_enter Try.func51, Try.ntmps51
  go_wp2_with fail
  go_loopw [8] (fun i wr => ∃ j : Nat, j ≤ k ∧ i = .int .i64 j ∧ Dr w wr) (fun i _ => n - (intOf i).toNat)
  case atStart => exact ⟨0, by omega, rfl, Dr.refl _⟩
  case round =>
    obtain ⟨j, hj, rfl, Dj⟩ := hrel
    have Kj := (Kept.refl w).dr Dj
    by_cases hlt : j < n
    · have hlt' : (j : Int) < n := by omega
      obtain ⟨b, o, x, rfl, hx, hxv⟩ := (Kj.sl HS.out).at j hlt
      have hb := HW.out j
      rw [← hxv.out] at hb
      obtain ⟨x0, x1⟩ := hb
      have HC := Lib.hid (cut1 x off q wr x0 x1 (Kj.cel HQ.out))
      by_cases hjk : j < k
      · have h3 := H1.out j hjk
        rw [← hxv.out] at h3
        have hd : Hid (decide (off ≤ ofI x) = false) := decide_eq_false (by omega)
        clear hxv h3
        go_wp2_with fail
        refine HC.out.mono ?_
        rintro e V ⟨rfl, D2⟩
        rw [hd.out]
        go_wp2
        go_roundw
        case rel => exact ⟨j + 1, by omega, by go_num, Dj.trans D2⟩
        case measure => simp [intOf]; omega
      · obtain rfl : j = k := by omega
        have h3 := H2.out j (Nat.le_refl _) hlt
        rw [← hxv.out] at h3
        have hd : Hid (decide (off ≤ ofI x) = true) := decide_eq_true h3
        have hr : Hid ((if j < n then (j : Int) else -1) = j) := if_pos hlt
        clear hxv h3
        go_wp2_with fail
        refine HC.out.mono ?_
        rintro e V ⟨rfl, D2⟩
        rw [hd.out]
        go_wp2
        go_ret
        exact ⟨ret_int (by first | rfl | exact hr.out.symm), Dj.trans D2⟩
    · have hge : (n : Int) ≤ j := by omega
      have hr : Hid ((if k < n then (k : Int) else -1) = -1) := if_neg (by omega)
      go_wp2
      go_ret
      exact ⟨ret_int (by first | rfl | exact hr.out.symm), Dj⟩
theorem zeroS : ∀ w, (zeroValue 41).run Try.prog w = .ok (.int .u64 0) w := fun w => by kernel_rfl
theorem app_free {w : World} {e : TypeId} {a : Option Addr} {n c : Nat} {g : Option Nat} {xs : List Value} (h : App w e 1 (.slice a n c) n g xs) (h0 : 0 < n) :
    ∃ b, a = some ⟨b, 0, none⟩ ∧ g = some b ∧ b < w.heap.size ∧ ∀ i, i < n → (w.cell? ⟨b, i, none⟩).isSome = true ∧ w.frozen? ⟨b, i, none⟩ = false := by
  obtain ⟨b, h1, h2, h3, _⟩ := app_at h 0 h0
  refine ⟨b, h1, h2, h3, fun i hi => ?_⟩
  obtain ⟨b', h1', _, _, _, h5, h6, _⟩ := app_at h i hi
  rw [h1] at h1'
  injection h1' with h1'
  injection h1' with h1'
  subst h1'
  exact ⟨h5, h6⟩
set_option maxRecDepth 100000 in
set_option maxHeartbeats 2000000 in
theorem ep_del (a : Option Addr) (n c k : Nat) (g : Option Nat) (L : List Int) (off : Int) (q : Nat) (w : World) (hA : App w 41 1 (.slice a n c) n g (wordsV L)) (hW : IsW L) (hq : w.cell? ⟨q, 0, none⟩ = some (.int .i64 off)) (hk : k ≤ n) (h1 : ∀ j, j < k → ofI (L.getD j 0) < off) (h2 : ∀ j, k ≤ j → j < n → off ≤ ofI (L.getD j 0)) :
    Calls Try.prog 40 #[.slice a n c, .func (.func 41) #[] #[.pointer (some ⟨q, 0, none⟩)]] w fun e w' => e = .returned (.slice a k c) ∧ Sl .u64 w' a k c (L.take k) ∧ Only g.toList w w' := by
  have hS := (app_slk (k := .u64) (xs := L) hA).1
  have HI := Lib.hid (ep_idxf a n c k L off q w hS hW hq hk h1 h2)
  have hnc := hS.2.1
  have hcm := hS.2.2.1
  unfold maxLen at hcm
  have HS := Lib.hid hS
  have HW := Lib.hid hW
  have HQ := Lib.hid hq
  have H2 := Lib.hid h2
  have HST := Lib.hid (sl_take hS k hk)
  by_cases hkn : k < n
  · obtain ⟨b, rfl, rfl, hbl, hfree⟩ := app_free hA (by omega)
    have HF := Lib.hid hfree
    have hr : Hid ((if k < n then (k : Int) else -1) = k) := if_pos hkn
    have hm1 : ((k : Int) == -1) = false := by first | (simp; done) | (simp; omega)
    have x1 := fun W => run_cut_l elemW (some ⟨b, 0, none⟩) n c .i64 k (k : Int) rfl hk W
    have x2 := fun W => run_cut_h elemW (some ⟨b, 0, none⟩) n c .i64 k (k : Int) rfl (by omega) W
    have hcut : cutA (some (⟨b, 0, none⟩ : Addr)) c k 1 = some ⟨b, k, none⟩ := by
      unfold cutA
      rw [if_neg (by omega)]
      simp [Addr.add]
      omega
    rw [hcut] at x1
    clear hA hS hW hq h1 h2 hfree hcut
    go_enter Try.func40, Try.ntmps40
    go_wp2_with fail
    refine HI.out.mono ?_
    rintro e V ⟨rfl, DV⟩
    rw [hr.out]
    go_wp2_with fail
    go_loopw [5, 6] (fun ki i wr => ∃ j : Nat, k < j ∧ j ≤ n ∧ ki = .int .i64 k ∧ i = .int .i64 j ∧ Dr w wr) (fun _ i _ => n - (intOf i).toNat)
    case atStart => exact ⟨k + 1, by omega, by omega, rfl, by go_num, DV⟩
    case round =>
      obtain ⟨j, hkj, hj, rfl, rfl, Dj⟩ := hrel
      have Kj := (Kept.refl w).dr Dj
      by_cases hlt : j < n
      · have hlt' : (j : Int) < n := by omega
        obtain ⟨b2, o2, x, hab, hx, hxv⟩ := (Kj.sl HS.out).at j hlt
        injection hab with hab
        injection hab with hab1 hab2
        subst hab1 hab2
        rw [Nat.zero_add] at hx
        have hb := HW.out j
        rw [← hxv.out] at hb
        obtain ⟨y0, y1⟩ := hb
        have HC := Lib.hid (cut1 x off q wr y0 y1 (Kj.cel HQ.out))
        have h3 := H2.out j (by omega) hlt
        rw [← hxv.out] at h3
        have hd : Hid (decide (off ≤ ofI x) = true) := decide_eq_true h3
        clear hxv h3
        go_wp2_with fail
        refine HC.out.mono ?_
        rintro e V2 ⟨rfl, D2⟩
        rw [hd.out]
        go_wp2
        go_roundw
        case rel => exact ⟨j + 1, by omega, by omega, rfl, by go_num, Dj.trans D2⟩
        case measure => simp [intOf]; omega
      · have hge : (n : Int) ≤ j := by omega
        have hcl : ∀ ty, (Builtin.clear_ #[22] ty #[.slice (some ⟨b, k, none⟩) (n - k) (c - k)]).run Try.prog wr = .ok (.tuple #[]) (wr.setCells b k (List.replicate (n - k) (.int .u64 0))) :=
          fun ty => Lib.run_clear_slice wr 22 41 ty (.int .u64 0) Try.underlying22 zeroS rfl rfl b k _ _ (by omega)
            (fun t ht => by rw [Dj.cell]; exact (HF.out (k + t) (by omega)).1) (fun t ht => by obtain ⟨dn, rfl⟩ := Dj; exact (HF.out (k + t) (by omega)).2)
        go_wp2
        go_ret
        have hSW : Sl .u64 wr (some ⟨b, 0, none⟩) k c (L.take k) := ((Kept.refl w).dr Dj).sl HST.out
        refine ⟨rfl, ⟨hSW.1, hSW.2.1, hSW.2.2.1, fun i hi => ?_⟩, ?_⟩
        · obtain ⟨b3, o3, h3, h4, h5⟩ := hSW.2.2.2 i hi
          injection h3 with h3
          injection h3 with h31 h32
          subst h31 h32
          refine ⟨b, 0, rfl, Nat.lt_of_lt_of_le h4 (only_setCells wr b k _).size, ?_⟩
          rw [World.cell?_setCells_out b _ k wr _ (fun _ _ => .inl (by show 0 + i < k; omega))]
          exact h5
        · exact (((Only.refl [b] w).dr Dj).trans (only_setCells wr b k _)).mono (fun i _ hi => by simpa using hi)
  · obtain rfl : k = n := by omega
    have hr : Hid ((if k < k then (k : Int) else -1) = -1) := if_neg hkn
    clear hA hS hW hq h1 h2
    go_enter Try.func40, Try.ntmps40
    go_wp2_with fail
    refine HI.out.mono ?_
    rintro e V ⟨rfl, DV⟩
    rw [hr.out]
    go_wp2
    go_ret
    exact ⟨rfl, ((Kept.refl w).dr DV).sl HST.out, ((Only.refl _ w).dr DV)⟩
end Go.Proofs.Ytmkoabalakfehaa
