/- The walks of the reference: sums (as in XSumRef, XSumRef2, for the seat of Frame), numbers. -/
import Derived.Test.YtonifnbmofbakaaFrCutsMath
set_option linter.unusedVariables false
set_option linter.unusedSimpArgs false
namespace Go.Proofs.Ytonifnbmofbakaa
open Go.RowKit
theorem ref_prime (w : World) : Calls Try.prog 34 #[] w fun e w' => e = .returned (.int .u64 65521) ∧ w' = w := by
  go_enter Try.func34, Try.ntmps34
  go_wp2
  go_ret
  exact ⟨rfl, rfl⟩
theorem ref_halves (s : Int) (w : World) (h0 : 0 ≤ s) (h1 : s ≤ 4294967295) : Calls Try.prog 33 #[.int .u32 s] w fun e w' => e = .returned (.tuple #[.int .u64 (s % 65536), .int .u64 (s / 65536)]) ∧ w = w' := by
  go_enter Try.func33, Try.ntmps33
  go_wp2
  go_ret2
  exact ⟨rfl, rfl⟩
theorem ref_word (a c : Int) (w : World) (h0 : 0 ≤ a) (h1 : a ≤ 65520) (h2 : 0 ≤ c) (h3 : c ≤ 65520) : Calls Try.prog 35 #[.int .u64 a, .int .u64 c] w fun e w' => e = .returned (.int .u32 (word (a, c))) ∧ w' = w := by
  go_enter Try.func35, Try.ntmps35
  go_wp2
  go_ret
  exact ⟨rfl, rfl⟩
set_option maxHeartbeats 400000 in
theorem ref_good (s : Int) (w : World) (h0 : 0 ≤ s) (h1 : s ≤ 4294967295) : Calls Try.prog 32 #[.int .u32 s] w fun e w' => e = .returned (.bool (goodB s)) ∧ w = w' := by
  by_cases h2 : s % 65536 < 65521
  all_goals
    go_enter Try.func32, Try.ntmps32
    go_wp2_with (go_at_call 34; refine (ref_prime _).mono ?_; rintro e w' ⟨rfl, rfl⟩)
    go_ret
    exact ⟨ret_bool (by simp [goodB]; omega), rfl⟩
theorem ref_good_yes (s : Int) (w : World) (h0 : 0 ≤ s) (h1 : s ≤ 4294967295) (hg : goodB s = true) :
    Calls Try.prog 32 #[.int .u32 s] w fun e w' => e = .returned (.bool true) ∧ w = w' := hg ▸ ref_good s w h0 h1
theorem ref_good_no (s : Int) (w : World) (h0 : 0 ≤ s) (h1 : s ≤ 4294967295) (hg : goodB s = false) :
    Calls Try.prog 32 #[.int .u32 s] w fun e w' => e = .returned (.bool false) ∧ w = w' := hg ▸ ref_good s w h0 h1
set_option maxHeartbeats 400000 in
theorem ref_on_no (s : Int) (a : Option Addr) (n c : Nat) (w : World) (h0 : 0 ≤ s) (h1 : s ≤ 4294967295) (hg : goodB s = false) :
    Calls Try.prog 31 #[.int .u32 s, .slice a n c] w fun e w' => e = .returned (.tuple #[.int .u32 0, .bool false]) ∧ Dr w w' := by
  go_enter Try.func31, Try.ntmps31
  go_wp2_with (go_at_call 32; refine (ref_good_no _ _ h0 h1 hg).mono ?_; rintro e w' ⟨rfl, rfl⟩)
  go_ret2
  exact ⟨rfl, Dr.refl _⟩
set_option maxHeartbeats 1000000 in
theorem ref_on_yes (s : Int) (a : Option Addr) (n c : Nat) (zs : List Int) (w : World) (h0 : 0 ≤ s) (h1 : s ≤ 4294967295) (hg : goodB s = true) (hS : Sl .u8 w a n c zs) (hB : IsB zs) :
    Calls Try.prog 31 #[.int .u32 s, .slice a n c] w fun e w' => e = .returned (.tuple #[.int .u32 (onV s zs), .bool true]) ∧ Dr w w' := by
  have HB := Lib.hid hB
  clear hB
  have HS := Lib.hid hS
  have hzl := hS.1
  have hnc := hS.2.1
  have hcm := hS.2.2.1
  clear hS
  unfold maxLen at hcm
  have hok := halves_ok s h0 hg
  have HL := Lib.hid hzl
  clear hzl
  go_enter Try.func31, Try.ntmps31
  go_wp2_with (first | (go_at_call 32; refine (ref_good_yes _ _ h0 h1 hg).mono ?_; rintro e w' ⟨rfl, rfl⟩) | (go_at_call 33; refine (ref_halves _ _ h0 h1).mono ?_; rintro e w' ⟨rfl, rfl⟩))
  go_loopw [6, 7, 8] (fun x y i wr => ∃ k : Nat, k ≤ n ∧ i = .int .i64 k ∧ x = .int .u64 (onF (halves s) (zs.take k)).1 ∧ y = .int .u64 (onF (halves s) (zs.take k)).2 ∧ Dr w wr)
    (fun _ _ i _ => n - (intOf i).toNat)
  case atStart => exact ⟨0, Nat.zero_le _, rfl, rfl, rfl, Dr.refl _⟩
  case round =>
    obtain ⟨k, hk, rfl, rfl, rfl, hd⟩ := hrel
    have hok2 := onF_ok (zs.take k) _ hok
    obtain ⟨o1, o2, o3, o4⟩ := hok2
    by_cases hlt : k < n
    · obtain ⟨b, o, v, rfl, hc, hv⟩ := (hd.sl HS.out).at k hlt
      have hb : 0 ≤ v ∧ v ≤ 255 := by rw [hv.out]; exact HB.out k
      have HT : Hid (onF (halves s) (zs.take (k + 1)) = step (onF (halves s) (zs.take k)) v) := by
        unfold Hid; rw [take_succ_getD zs k (by rw [HL.out]; exact hlt), onF_snoc, hv.out]
      generalize onF (halves s) (zs.take k) = p at *
      have hw1 : IntKind.u64.wrap v = v := by rw [IntKind.wrap_u64]; omega
      have hw2 : IntKind.u64.wrap (p.1 + v) = p.1 + v := by rw [IntKind.wrap_u64]; omega
      have h0v : 0 ≤ p.1 + v := by omega
      go_wp2_with fail
      go_quiet ((go_at_call 34; exact Calls.quiet_of_same (ref_prime _)))
      clear hw1 hw2
      go_wp2_with (go_at_call 34; refine (ref_prime _).mono ?_; rintro e w' ⟨rfl, rfl⟩)
      go_roundw
      case rel => exact ⟨k + 1, by omega, by go_num, by rw [HT.out]; rfl, by rw [HT.out]; rfl, hd.drewN _⟩
      case measure => simp [intOf]; omega
    · obtain rfl : k = n := by omega
      go_wp2_with (go_at_call 35; refine (ref_word _ _ _ (by omega) (by omega) (by omega) (by omega)).mono ?_; rintro e w' ⟨rfl, rfl⟩)
      go_ret2
      refine ⟨?_, hd⟩
      rw [show zs.take k = zs from List.take_of_length_le (by rw [HL.out]; exact Nat.le_refl _)] at *
      rfl
set_option maxHeartbeats 400000 in
theorem ref_sum (a : Option Addr) (n c : Nat) (zs : List Int) (w : World) (hS : Sl .u8 w a n c zs) (hB : IsB zs) :
    Calls Try.prog 25 #[.slice a n c] w fun e w' => e = .returned (.int .u32 (sumOf zs)) ∧ Dr w w' := by
  have HB := Lib.hid hB
  clear hB
  have HS := Lib.hid hS
  clear hS
  go_enter Try.func25, Try.ntmps25
  go_wp2_with (go_at_call 31; refine (ref_on_yes 1 a n c zs _ (by omega) (by omega) (by decide) HS.out HB.out).mono ?_; rintro e w' ⟨rfl, hd⟩)
  go_ret
  exact ⟨rfl, hd⟩
theorem pow_div256 (v : Int) (j : Nat) : (v / 2 ^ (8 * j)) / 256 = v / 2 ^ (8 * (j + 1)) := by
  rw [Int.ediv_ediv_of_nonneg (Int.le_of_lt (Int.pow_pos (by omega))), show (2 : Int) ^ (8 * (j + 1)) = 2 ^ (8 * j) * 256 by rw [show 8 * (j + 1) = 8 * j + 8 by omega, Int.pow_add]; rfl]
set_option maxRecDepth 100000 in
set_option maxHeartbeats 1000000 in
theorem ref_low (v : Int) (n : Nat) (w : World) (hn : n ≤ 8) (v0 : 0 ≤ v) (v1 : v ≤ 18446744073709551615) (kI : Int) (hk : kI = n) :
    Calls Try.prog 24 #[.int .u64 v, .int .i64 kI] w fun e w' => ∃ a' c' g', e = .returned (.slice a' n c') ∧ App w' 5 1 (.slice a' n c') n g' (bytesV (leB v n)) ∧ Kept w w' ∧ (∀ k, g' = some k → w.heap.size ≤ k) := by
  subst hk
  go_enter Try.func24, Try.ntmps24
  go_wp2_with fail
  go_loopw [0, 5, 6] (fun sv sa i wr => ∃ (j : Nat) (u : Int) (a' : Option Addr) (c' : Nat) (g' : Option Nat), sv = .int .u64 u ∧ sa = .slice a' j c' ∧ i = .int .i64 j ∧ j ≤ n ∧ Hid (u = v / 2 ^ (8 * j)) ∧ 0 ≤ u ∧ u ≤ 18446744073709551615 ∧ Hid (App wr 5 1 (.slice a' j c') j g' (bytesV (leB v j))) ∧ Kept w wr ∧ Hid (∀ k, g' = some k → w.heap.size ≤ k)) (fun _ _ i _ => n - (intOf i).toNat)
  case atStart => exact ⟨0, v, none, 0, none, rfl, rfl, rfl, by omega, (by unfold Hid; simp), v0, v1, app_nil _ _ _, Kept.refl _, (by intro k hk; cases hk)⟩
  case round =>
    obtain ⟨j, u, a', c', g', rfl, rfl, rfl, hj, Hu, u0, u1, HA, KW, Hg⟩ := hrel
    by_cases hlt : j < n
    · have hlt' : (j : Int) < n := by omega
      have hm : 0 ≤ u % 256 ∧ u % 256 ≤ 255 := by omega
      have hd : 0 ≤ u / 256 ∧ u / 256 ≤ 18446744073709551615 := by omega
      have hws := KW.size
      go_wp2_with (at_builtin; refine wpList_app rfl (.tmp 12) (.tmp 16) 23 23 rfl elemB _ j _ _ rfl ((kept_al wr _).only.app HA.out (by simp)) _ 1 _ rfl (src_sl Try.underlying23 (sl_lit .u8 wr 5 (0, 0) [u % 256] 1 rfl (by unfold maxLen; omega))) (by omega) (by unfold maxLen; omega) ?_; intro a5 c5 g5 w5 hA5 hO5 hG5)
      go_roundw
      case rel =>
        refine ⟨j + 1, u / 256, a5, c5, g5, rfl, rfl, by go_num, by omega, ?_, by omega, by omega, ?_, (KW.trans (kept_al wr _)).onl hO5 (fun i hi => Hg.out i (by simpa using hi)), ?_⟩
        · unfold Hid; rw [Hu.out, pow_div256]
        · unfold Hid
          rw [leB, bytesV_append, ← Hu.out]
          exact hA5
        · rcases hG5 with rfl | rfl
          · exact Hg.out
          · intro k hk; injection hk with hk; simp at hk; omega
      case measure => simp [intOf]; omega
    · have hge : (n : Int) ≤ j := by omega
      obtain rfl : n = j := by omega
      go_wp2
      go_ret
      exact ⟨a', c', g', rfl, HA.out, KW, Hg.out⟩
theorem rdN_cons (x : Int) (l : List Int) : ∀ k, rdN (x :: l) (k + 1) = x + 256 * rdN l k
  | 0 => by simp [rdN]
  | k + 1 => by
    rw [rdN, rdN_cons x l k, rdN, show 8 * (k + 1) = 8 * k + 8 by omega, Int.pow_add, Int.mul_add]
    have : (x :: l).getD (k + 1) 0 = l.getD k 0 := rfl
    rw [this]
    have e : ∀ y p : Int, y * (p * 2 ^ 8) = 256 * (y * p) := fun y p => by rw [← Int.mul_assoc, Int.mul_comm]; rfl
    rw [e]; omega
theorem rdN_back (zs : List Int) (k n : Nat) (hk : k < n) (hn : n ≤ zs.length) : rdN (zs.drop k) (n - k) = zs.getD k 0 + 256 * rdN (zs.drop (k + 1)) (n - (k + 1)) := by
  rw [List.drop_eq_getElem_cons (by omega), show n - k = n - (k + 1) + 1 by omega, rdN_cons]
  rw [List.getD_eq_getElem?_getD, List.getElem?_eq_getElem (by omega)]; rfl
set_option maxRecDepth 100000 in
set_option maxHeartbeats 1000000 in
theorem ref_value (a : Option Addr) (n c : Nat) (zs : List Int) (w : World) (hS : Sl .u8 w a n c zs) (hB : IsB zs) (hn : n ≤ 8) :
    Calls Try.prog 26 #[.slice a n c] w fun e w' => e = .returned (.int .u64 (rdN zs n)) ∧ w = w' := by
  have hl := hS.1
  have hnc := hS.2.1
  have hcm := hS.2.2.1
  unfold maxLen at hcm
  have HS := Lib.hid hS
  have HB := Lib.hid hB
  clear hS hB
  go_enter Try.func26, Try.ntmps26
  go_wp2_with fail
  go_loopw [3, 4] (fun sv i wr => ∃ (j : Nat) (v : Int), sv = .int .u64 v ∧ i = .int .i64 ((j : Int) - 1) ∧ j ≤ n ∧ Hid (v = rdN (zs.drop j) (n - j)) ∧ w = wr) (fun _ i _ => (intOf i + 1).toNat)
  case atStart => exact ⟨n, 0, rfl, (by first | rfl | (congr 1; omega)), Nat.le_refl _, (by unfold Hid; rw [Nat.sub_self]; rfl), (by first | trivial | rfl)⟩
  case round =>
    obtain ⟨j, v, rfl, rfl, hj, HV, rfl⟩ := hrel
    by_cases hlt : 0 < j
    · obtain ⟨i, rfl⟩ : ∃ i, j = i + 1 := ⟨j - 1, by omega⟩
      have e1 : (((i + 1 : Nat) : Int) - 1) = i := by omega
      rw [e1]
      obtain ⟨b, o, z, rfl, hz, hzv⟩ := HS.out.at i (by omega)
      have hzb := HB.out i
      rw [← hzv.out] at hzb
      obtain ⟨z0, z1⟩ := hzb
      have hbd := rdN_bd (isB_drop HB.out (i + 1)) (n - (i + 1)) (by omega)
      have hbd2 := rdN_bd (isB_drop HB.out i) (n - i) (by omega)
      have hrb := rdN_back zs i n (by omega) (by omega)
      rw [← hzv.out, ← HV.out] at hrb
      rw [← HV.out] at hbd
      rw [hrb] at hbd2
      have hp : (2 : Int) ^ (8 * (n - i)) ≤ 18446744073709551616 := by
        have h : ∀ k : Fin 9, (2 : Int) ^ (8 * k.val) ≤ 18446744073709551616 := by decide
        exact h ⟨n - i, by omega⟩
      obtain ⟨q0, q1⟩ := hbd2
      have q2 : z + 256 * v ≤ 18446744073709551615 := by omega
      have q3 := hbd.1
      have HV2 : Hid (v * 256 + z = rdN (zs.drop i) (n - i)) := by unfold Hid; rw [hrb]; omega
      have hil : (i : Int) < n := by omega
      clear hbd hrb hp q1 q0 hzv
      go_wp2
      go_roundw
      case rel => exact ⟨i, v * 256 + z, rfl, (by first | rfl | (congr 1; omega)), by omega, HV2.out, (by first | trivial | rfl)⟩
      case measure => (simp [intOf] <;> omega)
    · obtain rfl : j = 0 := by omega
      have hv := HV.out
      rw [List.drop_zero, Nat.sub_zero] at hv
      subst hv
      go_wp2
      go_ret
      exact ⟨rfl, rfl⟩
end Go.Proofs.Ytonifnbmofbakaa
