/- The walks of the reference's sums, second part: Sum, Join, Turn. -/
import Derived.Test.YtciolohapanpfaaSumRef
set_option linter.unusedVariables false
set_option linter.unusedSimpArgs false
namespace Go.Proofs.Ytciolohapanpfaa
open Go.RowKit
set_option maxHeartbeats 400000 in
theorem ref_sum (a : Option Addr) (n c : Nat) (zs : List Int) (w : World) (hS : Sl .u8 w a n c zs) (hB : IsB zs) :
    Calls Try.prog 17 #[.slice a n c] w fun e w' => e = .returned (.int .u32 (sumOf zs)) ∧ Dr w w' := by
  have HB := Lib.hid hB
  clear hB
  have HS := Lib.hid hS
  clear hS
  go_enter Try.func17, Try.ntmps17
  go_wp2_with (go_at_call 14; refine (ref_on_yes 1 a n c zs _ (by omega) (by omega) (by decide) HS.out HB.out).mono ?_; rintro e w' ⟨rfl, hd⟩)
  go_ret
  exact ⟨rfl, hd⟩
theorem joinV_ref (s t n : Int) : word ((s % 65536 + t % 65536 + 65521 - 1) % 65521, (s / 65536 + t / 65536 + n % 65521 * ((s % 65536 + 65521 - 1) % 65521)) % 65521) = joinV s t n := by
  unfold joinV
  congr 1
  apply Prod.ext
  · show _ % 65521 = _ % 65521; omega
  · refine Eqm.emod ((Eqm.refl _).add ((Eqm.refl _).mul ((Eqm.mod _).trans ⟨1, by omega⟩)))
theorem turnV_ref (s n i f t : Int) : word ((s % 65536 + (t + 65521 - f)) % 65521, (s / 65536 + (n - i) % 65521 * ((t + 65521 - f) % 65521)) % 65521) = turnV s n i f t := by
  unfold turnV
  congr 1
  apply Prod.ext
  · show _ % 65521 = _ % 65521; omega
  · refine Eqm.emod ((Eqm.refl _).add ((Eqm.refl _).mul ((Eqm.mod _).trans ⟨1, by omega⟩)))
theorem wr64 (n : Int) (h0 : 0 ≤ n) (h1 : n ≤ 18446744073709551615) : IntKind.u64.wrap n = n := by rw [IntKind.wrap_u64]; omega
set_option maxHeartbeats 1000000 in
theorem ref_join_yes (s t n : Int) (w : World) (h0 : 0 ≤ s) (h1 : s ≤ 4294967295) (h2 : 0 ≤ t) (h3 : t ≤ 4294967295) (hn : 0 ≤ n) (hn1 : n ≤ 9223372036854775807) (gs : goodB s = true) (gt : goodB t = true) :
    Calls Try.prog 15 #[.int .u32 s, .int .u32 t, .int .i64 n] w fun e w' => e = .returned (.tuple #[.int .u32 (joinV s t n), .bool true]) ∧ Dr w w' := by
  obtain ⟨p1, p2⟩ := good_parts s gs
  obtain ⟨p3, p4⟩ := good_parts t gt
  obtain ⟨q1, q2⟩ := mul_bd (n % 65521) ((s % 65536 + 65521 - 1) % 65521) 65520 0 65520 (by omega) (by omega) (by omega) (by omega) (by omega) (by omega)
  have G := Lib.hid gs
  have G' := Lib.hid gt
  clear gs gt
  go_enter Try.func15, Try.ntmps15
  go_wp2_with (first | (go_at_call 18; (first | (with_reducible refine (ref_good_yes s _ h0 h1 G.out).mono ?_) | (with_reducible refine (ref_good_yes t _ h2 h3 G'.out).mono ?_)); rintro e w' ⟨rfl, rfl⟩) | (go_at_call 21; refine (ref_halves _ _ (by omega) (by omega)).mono ?_; rintro e w' ⟨rfl, rfl⟩) | (go_at_call 22; refine (flip_same (ref_prime _)).mono ?_; rintro e w' ⟨rfl, rfl⟩))
  have HR := Lib.hid (joinV_ref s t n)
  have e1 : IntKind.u64.wrap n = n := wr64 _ (by omega) (by omega)
  have e2 : IntKind.u64.wrap (s % 65536 + t % 65536) = s % 65536 + t % 65536 := wr64 _ (by omega) (by omega)
  have e3 : IntKind.u64.wrap (s % 65536 + t % 65536 + 65521) = s % 65536 + t % 65536 + 65521 := wr64 _ (by omega) (by omega)
  have e4 : IntKind.u64.wrap (s % 65536 + t % 65536 + 65521 - 1) = s % 65536 + t % 65536 + 65521 - 1 := wr64 _ (by omega) (by omega)
  have e5 : IntKind.u64.wrap (s / 65536 + t / 65536) = s / 65536 + t / 65536 := wr64 _ (by omega) (by omega)
  have e6 : IntKind.u64.wrap (n % 65521 * ((s % 65536 + 65521 - 1) % 65521)) = n % 65521 * ((s % 65536 + 65521 - 1) % 65521) := wr64 _ (by omega) (by omega)
  have e7 : IntKind.u64.wrap (s / 65536 + t / 65536 + n % 65521 * ((s % 65536 + 65521 - 1) % 65521)) = s / 65536 + t / 65536 + n % 65521 * ((s % 65536 + 65521 - 1) % 65521) := wr64 _ (by omega) (by omega)
  have f1 : 0 ≤ s % 65536 + t % 65536 + 65521 - 1 := by omega
  have f2 : 0 ≤ s / 65536 + t / 65536 + n % 65521 * ((s % 65536 + 65521 - 1) % 65521) := by omega
  go_quiet ((first | (go_at_call 22; exact Calls.quiet_of_same (ref_prime _)) | (go_at_call 23; exact Calls.quiet_of_same (ref_word _ _ _ (by omega) (by omega) (by omega) (by omega)))))
  clear e1 e2 e3 e4 e5 e6 e7
  go_wp2
  go_ret2
  refine ⟨?_, (Dr.refl _).drewN _⟩
  rw [← HR.out]
  rfl
set_option maxHeartbeats 400000 in
theorem ref_join_no (s t n : Int) (w : World) (h0 : 0 ≤ s) (h1 : s ≤ 4294967295) (h2 : 0 ≤ t) (h3 : t ≤ 4294967295) (hno : goodB s = false ∨ goodB t = false ∨ n < 0) :
    Calls Try.prog 15 #[.int .u32 s, .int .u32 t, .int .i64 n] w fun e w' => e = .returned (.tuple #[.int .u32 0, .bool false]) ∧ w = w' := by
  cases gs : goodB s
  · have G := Lib.hid gs
    clear gs hno
    go_enter Try.func15, Try.ntmps15
    go_wp2_with (go_at_call 18; refine (ref_good_no s _ h0 h1 G.out).mono ?_; rintro e w' ⟨rfl, rfl⟩)
    go_ret2
    exact ⟨rfl, rfl⟩
  · cases gt : goodB t
    · have G := Lib.hid gs
      have G' := Lib.hid gt
      clear gs gt hno
      go_enter Try.func15, Try.ntmps15
      go_wp2_with (go_at_call 18; (first | (with_reducible refine (ref_good_yes s _ h0 h1 G.out).mono ?_) | (with_reducible refine (ref_good_no t _ h2 h3 G'.out).mono ?_)); rintro e w' ⟨rfl, rfl⟩)
      go_ret2
      exact ⟨rfl, rfl⟩
    · have hn : n < 0 := by rcases hno with h | h | h <;> simp_all
      have G := Lib.hid gs
      have G' := Lib.hid gt
      clear gs gt hno
      go_enter Try.func15, Try.ntmps15
      go_wp2_with (go_at_call 18; (first | (with_reducible refine (ref_good_yes s _ h0 h1 G.out).mono ?_) | (with_reducible refine (ref_good_yes t _ h2 h3 G'.out).mono ?_)); rintro e w' ⟨rfl, rfl⟩)
      go_ret2
      exact ⟨rfl, rfl⟩
set_option maxHeartbeats 400000 in
theorem ref_turn_no (s n i f t : Int) (w : World) (h0 : 0 ≤ s) (h1 : s ≤ 4294967295) (hno : goodB s = false ∨ n < 1 ∨ i < 0 ∨ n ≤ i) :
    Calls Try.prog 16 #[.int .u32 s, .int .i64 n, .int .i64 i, .int .u8 f, .int .u8 t] w fun e w' => e = .returned (.tuple #[.int .u32 0, .bool false]) ∧ w = w' := by
  cases gs : goodB s
  · have G := Lib.hid gs
    clear gs hno
    go_enter Try.func16, Try.ntmps16
    go_wp2_with (go_at_call 18; refine (ref_good_no s _ h0 h1 G.out).mono ?_; rintro e w' ⟨rfl, rfl⟩)
    go_ret2
    exact ⟨rfl, rfl⟩
  · have hno' : n < 1 ∨ 1 ≤ n ∧ i < 0 ∨ 1 ≤ n ∧ 0 ≤ i ∧ n ≤ i := by simp [gs] at hno; omega
    have G := Lib.hid gs
    clear gs hno
    rcases hno' with h | ⟨h, h'⟩ | ⟨h, h', h''⟩
    all_goals
      go_enter Try.func16, Try.ntmps16
      go_wp2_with (go_at_call 18; refine (ref_good_yes s _ h0 h1 G.out).mono ?_; rintro e w' ⟨rfl, rfl⟩)
      go_ret2
      exact ⟨rfl, rfl⟩
set_option maxHeartbeats 1000000 in
theorem ref_turn_yes (s n i f t : Int) (w : World) (h0 : 0 ≤ s) (h1 : s ≤ 4294967295) (hn : 1 ≤ n) (hn1 : n ≤ 9223372036854775807) (hi : 0 ≤ i) (hin : i < n) (hf0 : 0 ≤ f) (hf1 : f ≤ 255) (ht0 : 0 ≤ t) (ht1 : t ≤ 255) (gs : goodB s = true) :
    Calls Try.prog 16 #[.int .u32 s, .int .i64 n, .int .i64 i, .int .u8 f, .int .u8 t] w fun e w' => e = .returned (.tuple #[.int .u32 (turnV s n i f t), .bool true]) ∧ Dr w w' := by
  obtain ⟨p1, p2⟩ := good_parts s gs
  obtain ⟨q1, q2⟩ := mul_bd ((n - i) % 65521) ((t + 65521 - f) % 65521) 65520 0 65520 (by omega) (by omega) (by omega) (by omega) (by omega) (by omega)
  have G := Lib.hid gs
  clear gs
  go_enter Try.func16, Try.ntmps16
  go_wp2_with (first | (go_at_call 18; refine (ref_good_yes s _ h0 h1 G.out).mono ?_; rintro e w' ⟨rfl, rfl⟩) | (go_at_call 21; refine (ref_halves _ _ (by omega) (by omega)).mono ?_; rintro e w' ⟨rfl, rfl⟩) | (go_at_call 22; refine (flip_same (ref_prime _)).mono ?_; rintro e w' ⟨rfl, rfl⟩))
  have HR := Lib.hid (turnV_ref s n i f t)
  have e0 : IntKind.i64.wrap (n - i) = n - i := IntWalk.i64_in _ (by omega)
  have e1 : IntKind.u64.wrap (n - i) = n - i := wr64 _ (by omega) (by omega)
  have e2 : IntKind.u64.wrap (s % 65536 + (t + 65521 - f) % 65521) = s % 65536 + (t + 65521 - f) % 65521 := wr64 _ (by omega) (by omega)
  have e6 : IntKind.u64.wrap ((n - i) % 65521 * ((t + 65521 - f) % 65521)) = (n - i) % 65521 * ((t + 65521 - f) % 65521) := wr64 _ (by omega) (by omega)
  have e7 : IntKind.u64.wrap (s / 65536 + (n - i) % 65521 * ((t + 65521 - f) % 65521)) = s / 65536 + (n - i) % 65521 * ((t + 65521 - f) % 65521) := wr64 _ (by omega) (by omega)
  have f0 : 0 ≤ n - i := by omega
  have f1 : 0 ≤ s % 65536 + (t + 65521 - f) % 65521 := by omega
  have f2 : 0 ≤ s / 65536 + (n - i) % 65521 * ((t + 65521 - f) % 65521) := by omega
  go_quiet ((first | (go_at_call 22; exact Calls.quiet_of_same (ref_prime _)) | (go_at_call 23; exact Calls.quiet_of_same (ref_word _ _ _ (by omega) (by omega) (by omega) (by omega)))))
  clear e0 e1 e2 e6 e7
  go_wp2
  go_ret2
  refine ⟨?_, (Dr.refl _).drewN _⟩
  rw [← HR.out]
  rfl
end Go.Proofs.Ytciolohapanpfaa
