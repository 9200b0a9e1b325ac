/- The walks of package sum: each function computes what the plain mathematics says, and leaves the world as it was. -/
import Derived.Test.YtonifnbmofbakaaBase
import Derived.Test.YtonifnbmofbakaaSumMath
set_option linter.unusedVariables false
set_option linter.unusedSimpArgs false
namespace Go.Proofs.Ytonifnbmofbakaa
open Go.RowKit
theorem wr32 (n : Int) (h₀ : 0 ≤ n) (h₁ : n < 2 ^ 32) : IntKind.u32.wrap n = n := by rw [IntKind.wrap_u32]; omega
theorem mask16 (s : Int) (h0 : 0 ≤ s) (h1 : s ≤ 4294967295) : bits BinOp.and IntKind.u32 s 65535 = s % 65536 :=
  bits_mask .u32 32 (by decide) wr32 16 (by decide) s h0 (by omega)
theorem join16 (a c : Int) (h0 : 0 ≤ a) (h1 : a < 65536) (h2 : 0 ≤ c) (h3 : c < 65536) : bits BinOp.or IntKind.u32 (c * 65536) a = c * 65536 + a :=
  bits_join .u32 32 (by decide) wr32 16 (c * 65536) a (by omega) (by omega) (by omega) h0 (by omega) (by omega)
theorem tmod_mod (a : Int) : a.tmod 65521 % 65521 = a % 65521 := by
  have : a.tmod 65521 = a - 65521 * (a.tdiv 65521) := by have := Int.mul_tdiv_add_tmod a 65521; omega
  omega
set_option maxHeartbeats 400000 in
theorem sum_parts (s : Int) (w : World) (h0 : 0 ≤ s) (h1 : s ≤ 4294967295) :
    Calls Try.prog 28 #[.int .u32 s] w fun e w' => e = .returned (.tuple #[.int .i64 (s % 65536), .int .i64 (s / 65536)]) ∧ w = w' := by
  have hb := mask16 s h0 h1
  go_enter Try.func28, Try.ntmps28
  go_wp2
  go_ret2
  exact ⟨rfl, rfl⟩
set_option maxHeartbeats 400000 in
theorem sum_made (a c : Int) (w : World) (h0 : -4611686018427387904 ≤ a) (h1 : a ≤ 4611686018427387904)  (h2 : -4611686018427387904 ≤ c) (h3 : c ≤ 4611686018427387904) :
    Calls Try.prog 29 #[.int .i64 a, .int .i64 c] w fun e w' => e = .returned (.int .u32 (word (a % 65521, c % 65521))) ∧ w = w' := by
  have b1 := Int.lt_tmod_of_pos a (show (0:Int) < 65521 by decide)
  have b2 := Int.tmod_lt_of_pos a (show (0:Int) < 65521 by decide)
  have b3 := Int.lt_tmod_of_pos c (show (0:Int) < 65521 by decide)
  have b4 := Int.tmod_lt_of_pos c (show (0:Int) < 65521 by decide)
  go_enter Try.func29, Try.ntmps29
  go_wp2
  go_ret
  refine ⟨ret_int ?_, rfl⟩
  refine (join16 _ _ (by omega) (by omega) (by omega) (by omega)).trans ?_
  rw [tmod_mod, tmod_mod]
  rfl
set_option maxHeartbeats 400000 in
theorem sum_good (s : Int) (w : World) (h0 : 0 ≤ s) (h1 : s ≤ 4294967295) :
    Calls Try.prog 27 #[.int .u32 s] w fun e w' => e = .returned (.bool (goodB s)) ∧ w = w' := by
  by_cases h2 : s % 65536 < 65521
  · go_enter Try.func27, Try.ntmps27
    go_wp2_with (go_at_call 28; refine (sum_parts _ _ (by omega) (by omega)).mono ?_; rintro e w' ⟨rfl, rfl⟩)
    go_ret
    exact ⟨ret_bool (by simp [goodB, h2]), rfl⟩
  · go_enter Try.func27, Try.ntmps27
    go_wp2_with (go_at_call 28; refine (sum_parts _ _ (by omega) (by omega)).mono ?_; rintro e w' ⟨rfl, rfl⟩)
    go_ret
    exact ⟨ret_bool (by simp [goodB]; omega), rfl⟩
theorem sum_good_yes (s : Int) (w : World) (h0 : 0 ≤ s) (h1 : s ≤ 4294967295) (hg : goodB s = true) :
    Calls Try.prog 27 #[.int .u32 s] w fun e w' => e = .returned (.bool true) ∧ w = w' := hg ▸ sum_good s w h0 h1
theorem sum_good_no (s : Int) (w : World) (h0 : 0 ≤ s) (h1 : s ≤ 4294967295) (hg : goodB s = false) :
    Calls Try.prog 27 #[.int .u32 s] w fun e w' => e = .returned (.bool false) ∧ w = w' := hg ▸ sum_good s w h0 h1
set_option maxHeartbeats 400000 in
theorem sum_on_no (s : Int) (a : Option Addr) (n c : Nat) (w : World) (h0 : 0 ≤ s) (h1 : s ≤ 4294967295) (hg : goodB s = false) :
    Calls Try.prog 19 #[.int .u32 s, .slice a n c] w fun e w' => e = .returned (.tuple #[.int .u32 0, .bool false]) ∧ w = w' := by
  go_enter Try.func19, Try.ntmps19
  go_wp2_with (go_at_call 27; refine (sum_good_no _ _ h0 h1 hg).mono ?_; rintro e w' ⟨rfl, rfl⟩)
  go_ret2
  exact ⟨rfl, rfl⟩
theorem take_succ_getD (zs : List Int) (k : Nat) (h : k < zs.length) : zs.take (k + 1) = zs.take k ++ [zs.getD k 0] := by
  rw [List.take_succ_eq_append_getElem h]; simp [List.getD_eq_getElem?_getD, h]
set_option maxHeartbeats 1000000 in
theorem sum_on_yes (s : Int) (a : Option Addr) (n c : Nat) (zs : List Int) (w : World) (h0 : 0 ≤ s) (h1 : s ≤ 4294967295) (hg : goodB s = true) (hS : Sl .u8 w a n c zs) (hB : IsB zs) :
    Calls Try.prog 19 #[.int .u32 s, .slice a n c] w fun e w' => e = .returned (.tuple #[.int .u32 (onV s zs), .bool true]) ∧ w = w' := by
  have HB := Lib.hid hB
  clear hB
  have HS := Lib.hid hS
  have hzl := hS.1
  have hnc := hS.2.1
  have hcm := hS.2.2.1
  clear hS
  unfold maxLen at hcm
  have hok := halves_ok s h0 hg
  have HL := Lib.hid hzl
  clear hzl
  go_enter Try.func19, Try.ntmps19
  go_wp2_with (first | (go_at_call 27; refine (sum_good_yes _ _ h0 h1 hg).mono ?_; rintro e w' ⟨rfl, rfl⟩) | (go_at_call 28; refine (sum_parts _ _ h0 h1).mono ?_; rintro e w' ⟨rfl, rfl⟩))
  go_loop [6, 7, 20] (fun x y i => ∃ k : Nat, k ≤ n ∧ i = .int .i64 k ∧ x = .int .i64 (onF (halves s) (zs.take k)).1 ∧ y = .int .i64 (onF (halves s) (zs.take k)).2)
    (fun _ _ i => n - (intOf i).toNat)
  case atStart => exact ⟨0, Nat.zero_le _, rfl, rfl, rfl⟩
  case round =>
    obtain ⟨k, hk, rfl, rfl, rfl⟩ := hrel
    have hok2 := onF_ok (zs.take k) _ hok
    obtain ⟨o1, o2, o3, o4⟩ := hok2
    by_cases hlt : k < n
    · obtain ⟨b, o, v, rfl, hc, hv⟩ := HS.out.at k hlt
      have hb : 0 ≤ v ∧ v ≤ 255 := by rw [hv.out]; exact HB.out k
      have HT : Hid (onF (halves s) (zs.take (k + 1)) = step (onF (halves s) (zs.take k)) v) := by
        unfold Hid; rw [take_succ_getD zs k (by rw [HL.out]; exact hlt), onF_snoc, hv.out]
      generalize onF (halves s) (zs.take k) = p at *
      go_wp2
      go_round
      case rel => exact ⟨k + 1, by omega, by go_num, by rw [HT.out]; rfl, by rw [HT.out]; rfl⟩
      case measure => simp [intOf]; omega
    · obtain rfl : k = n := by omega
      go_wp2_with (go_at_call 29; refine (sum_made _ _ _ (by omega) (by omega) (by omega) (by omega)).mono ?_; rintro e w' ⟨rfl, rfl⟩)
      go_ret2
      refine ⟨?_, rfl⟩
      rw [show zs.take k = zs from List.take_of_length_le (by rw [HL.out]; exact Nat.le_refl _)] at *
      show Ending.returned (.tuple #[.int .u32 _, .bool true]) = _
      unfold onV
      rw [Int.emod_eq_of_lt o1 o2, Int.emod_eq_of_lt o3 o4]
end Go.Proofs.Ytonifnbmofbakaa
