/- The walks of the reference's sums. -/
import Derived.Test.YtciolohapanpfaaSumWalks2
set_option linter.unusedVariables false
set_option linter.unusedSimpArgs false
namespace Go.Proofs.Ytciolohapanpfaa
open Go.RowKit
theorem ref_prime (w : World) : Calls Try.prog 22 #[] w fun e w' => e = .returned (.int .u64 65521) ∧ w' = w := by
  go_enter Try.func22, Try.ntmps22
  go_wp2
  go_ret
  exact ⟨rfl, rfl⟩
theorem ref_halves (s : Int) (w : World) (h0 : 0 ≤ s) (h1 : s ≤ 4294967295) : Calls Try.prog 21 #[.int .u32 s] w fun e w' => e = .returned (.tuple #[.int .u64 (s % 65536), .int .u64 (s / 65536)]) ∧ w = w' := by
  go_enter Try.func21, Try.ntmps21
  go_wp2
  go_ret2
  exact ⟨rfl, rfl⟩
theorem ref_word (a c : Int) (w : World) (h0 : 0 ≤ a) (h1 : a ≤ 65520) (h2 : 0 ≤ c) (h3 : c ≤ 65520) : Calls Try.prog 23 #[.int .u64 a, .int .u64 c] w fun e w' => e = .returned (.int .u32 (word (a, c))) ∧ w' = w := by
  go_enter Try.func23, Try.ntmps23
  go_wp2
  go_ret
  exact ⟨rfl, rfl⟩
set_option maxHeartbeats 400000 in
theorem ref_good (s : Int) (w : World) (h0 : 0 ≤ s) (h1 : s ≤ 4294967295) : Calls Try.prog 18 #[.int .u32 s] w fun e w' => e = .returned (.bool (goodB s)) ∧ w = w' := by
  by_cases h2 : s % 65536 < 65521
  all_goals
    go_enter Try.func18, Try.ntmps18
    go_wp2_with (go_at_call 22; refine (ref_prime _).mono ?_; rintro e w' ⟨rfl, rfl⟩)
    go_ret
    exact ⟨ret_bool (by simp [goodB]; omega), rfl⟩
theorem ref_good_yes (s : Int) (w : World) (h0 : 0 ≤ s) (h1 : s ≤ 4294967295) (hg : goodB s = true) :
    Calls Try.prog 18 #[.int .u32 s] w fun e w' => e = .returned (.bool true) ∧ w = w' := hg ▸ ref_good s w h0 h1
theorem ref_good_no (s : Int) (w : World) (h0 : 0 ≤ s) (h1 : s ≤ 4294967295) (hg : goodB s = false) :
    Calls Try.prog 18 #[.int .u32 s] w fun e w' => e = .returned (.bool false) ∧ w = w' := hg ▸ ref_good s w h0 h1
set_option maxHeartbeats 400000 in
theorem ref_on_no (s : Int) (a : Option Addr) (n c : Nat) (w : World) (h0 : 0 ≤ s) (h1 : s ≤ 4294967295) (hg : goodB s = false) :
    Calls Try.prog 14 #[.int .u32 s, .slice a n c] w fun e w' => e = .returned (.tuple #[.int .u32 0, .bool false]) ∧ Dr w w' := by
  go_enter Try.func14, Try.ntmps14
  go_wp2_with (go_at_call 18; refine (ref_good_no _ _ h0 h1 hg).mono ?_; rintro e w' ⟨rfl, rfl⟩)
  go_ret2
  exact ⟨rfl, Dr.refl _⟩
set_option maxHeartbeats 1000000 in
theorem ref_on_yes (s : Int) (a : Option Addr) (n c : Nat) (zs : List Int) (w : World) (h0 : 0 ≤ s) (h1 : s ≤ 4294967295) (hg : goodB s = true) (hS : Sl .u8 w a n c zs) (hB : IsB zs) :
    Calls Try.prog 14 #[.int .u32 s, .slice a n c] w fun e w' => e = .returned (.tuple #[.int .u32 (onV s zs), .bool true]) ∧ Dr w w' := by
  have HB := Lib.hid hB
  clear hB
  have HS := Lib.hid hS
  have hzl := hS.1
  have hnc := hS.2.1
  have hcm := hS.2.2.1
  clear hS
  unfold maxLen at hcm
  have hok := halves_ok s h0 hg
  have HL := Lib.hid hzl
  clear hzl
  go_enter Try.func14, Try.ntmps14
  go_wp2_with (first | (go_at_call 18; refine (ref_good_yes _ _ h0 h1 hg).mono ?_; rintro e w' ⟨rfl, rfl⟩) | (go_at_call 21; refine (ref_halves _ _ h0 h1).mono ?_; rintro e w' ⟨rfl, rfl⟩))
  go_loopw [6, 7, 8] (fun x y i wr => ∃ k : Nat, k ≤ n ∧ i = .int .i64 k ∧ x = .int .u64 (onF (halves s) (zs.take k)).1 ∧ y = .int .u64 (onF (halves s) (zs.take k)).2 ∧ Dr w wr)
    (fun _ _ i _ => n - (intOf i).toNat)
  case atStart => exact ⟨0, Nat.zero_le _, rfl, rfl, rfl, Dr.refl _⟩
  case round =>
    obtain ⟨k, hk, rfl, rfl, rfl, hd⟩ := hrel
    have hok2 := onF_ok (zs.take k) _ hok
    obtain ⟨o1, o2, o3, o4⟩ := hok2
    by_cases hlt : k < n
    · obtain ⟨b, o, v, rfl, hc, hv⟩ := (hd.sl HS.out).at k hlt
      have hb : 0 ≤ v ∧ v ≤ 255 := by rw [hv.out]; exact HB.out k
      have HT : Hid (onF (halves s) (zs.take (k + 1)) = step (onF (halves s) (zs.take k)) v) := by
        unfold Hid; rw [take_succ_getD zs k (by rw [HL.out]; exact hlt), onF_snoc, hv.out]
      generalize onF (halves s) (zs.take k) = p at *
      have hw1 : IntKind.u64.wrap v = v := by rw [IntKind.wrap_u64]; omega
      have hw2 : IntKind.u64.wrap (p.1 + v) = p.1 + v := by rw [IntKind.wrap_u64]; omega
      have h0v : 0 ≤ p.1 + v := by omega
      go_wp2_with fail
      go_quiet ((go_at_call 22; exact Calls.quiet_of_same (ref_prime _)))
      clear hw1 hw2
      go_wp2_with (go_at_call 22; refine (ref_prime _).mono ?_; rintro e w' ⟨rfl, rfl⟩)
      go_roundw
      case rel => exact ⟨k + 1, by omega, by go_num, by rw [HT.out]; rfl, by rw [HT.out]; rfl, hd.drewN _⟩
      case measure => simp [intOf]; omega
    · obtain rfl : k = n := by omega
      go_wp2_with (go_at_call 23; refine (ref_word _ _ _ (by omega) (by omega) (by omega) (by omega)).mono ?_; rintro e w' ⟨rfl, rfl⟩)
      go_ret2
      refine ⟨?_, hd⟩
      rw [show zs.take k = zs from List.take_of_length_le (by rw [HL.out]; exact Nat.le_refl _)] at *
      rfl
end Go.Proofs.Ytciolohapanpfaa
