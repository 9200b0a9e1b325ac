/- A stamp's parts: Off, Epoch, Pack. -/
import Derived.Test.YtmkoabalakfehaaMem
set_option linter.unusedVariables false
set_option linter.unusedSimpArgs false
namespace Go.Proofs.Ytmkoabalakfehaa
open Go.RowKit
def epI (s : Int) : Int := s / 17592186044416
def ofI (s : Int) : Int := s % 17592186044416
theorem ofInt_nat64 (a : Nat) (ha : a < 18446744073709551616) : (BitVec.ofInt 64 (a : Int)).toNat = a := by
  rw [BitVec.ofInt_natCast, BitVec.toNat_ofNat]; exact Nat.mod_eq_of_lt (by omega)
theorem and_mask (x : Int) (h0 : 0 ≤ x) (h1 : x ≤ 18446744073709551615) : bits .and .u64 x 17592186044415 = x % 17592186044416 := by
  obtain ⟨a, rfl⟩ := Int.eq_ofNat_of_zero_le h0
  have e : (BitVec.ofInt 64 (17592186044415 : Int)).toNat = 2 ^ 44 - 1 := by decide
  show IntKind.u64.wrap ((BitVec.ofInt 64 (a : Int) &&& BitVec.ofInt 64 (17592186044415 : Int)).toNat : Int) = _
  rw [BitVec.toNat_and, ofInt_nat64 a (by omega), e, Nat.and_two_pow_sub_one_eq_mod, IntKind.wrap_u64]; omega
theorem or_low (e o : Int) (e0 : 0 ≤ e) (e1 : e < 524288) (o0 : 0 ≤ o) (o1 : o ≤ 17592186044415) : bits .or .i64 (e * 17592186044416) o = e * 17592186044416 + o := by
  obtain ⟨a, rfl⟩ := Int.eq_ofNat_of_zero_le e0
  obtain ⟨b, rfl⟩ := Int.eq_ofNat_of_zero_le o0
  have h : 17592186044416 * a + b = 17592186044416 * a ||| b := Nat.two_pow_add_eq_or_of_lt (i := 44) (by omega) a
  have hm : ((a : Int) * 17592186044416) = ((17592186044416 * a : Nat) : Int) := by omega
  show IntKind.i64.wrap ((BitVec.ofInt 64 ((a : Int) * 17592186044416) ||| BitVec.ofInt 64 (b : Int)).toNat : Int) = _
  rw [hm, BitVec.toNat_or, ofInt_nat64 _ (by omega), ofInt_nat64 b (by omega), ← h, IntKind.wrap_i64]; omega
theorem stamp_off (s : Int) (w : World) (h0 : 0 ≤ s) (h1 : s ≤ 18446744073709551615) : Calls Try.prog 28 #[.int .u64 s] w fun e w' => e = .returned (.int .i64 (ofI s)) ∧ w = w' := by
  have hm := and_mask s h0 h1
  go_enter Try.func28, Try.ntmps28
  go_wp2
  go_ret
  refine ⟨ret_int ?_, rfl⟩
  unfold ofI
  omega
theorem stamp_epoch (s : Int) (w : World) (h0 : 0 ≤ s) (h1 : s ≤ 18446744073709551615) : Calls Try.prog 29 #[.int .u64 s] w fun e w' => e = .returned (.int .i64 (epI s)) ∧ w = w' := by
  go_enter Try.func29, Try.ntmps29
  go_wp2
  go_ret
  refine ⟨ret_int ?_, rfl⟩
  unfold epI
  omega
theorem stamp_pack (e o : Int) (w : World) (e0 : 0 ≤ e) (e1 : e < 524288) (o0 : 0 ≤ o) (o1 : o ≤ 17592186044415) :
    Calls Try.prog 32 #[.int .i64 e, .int .i64 o] w fun E w' => E = .returned (.tuple #[.int .u64 (e * 17592186044416 + o), .bool true]) ∧ w = w' := by
  have hm := or_low e o e0 e1 o0 o1
  go_enter Try.func32, Try.ntmps32
  go_wp2
  exact bodyPost_ret (v := .tuple #[.int .u64 (e * 17592186044416 + o), .bool true]) (by simp [results, Try.results32, go_sem]) rfl ⟨rfl, rfl⟩
/-- words -/
def IsW (zs : List Int) : Prop := ∀ i, 0 ≤ zs.getD i 0 ∧ zs.getD i 0 ≤ 18446744073709551615
theorem isW_mem {zs : List Int} (h : IsW zs) : ∀ x ∈ zs, 0 ≤ x ∧ x ≤ 18446744073709551615 := by
  intro x hx
  obtain ⟨i, hi, rfl⟩ := List.mem_iff_getElem.1 hx
  have := h i
  rwa [List.getD_eq_getElem?_getD, List.getElem?_eq_getElem hi] at this
theorem isW_of_mem {zs : List Int} (h : ∀ x ∈ zs, 0 ≤ x ∧ x ≤ 18446744073709551615) : IsW zs := by
  intro i
  rw [List.getD_eq_getElem?_getD]
  by_cases hi : i < zs.length
  · rw [List.getElem?_eq_getElem hi]; exact h _ (List.getElem_mem hi)
  · rw [List.getElem?_eq_none (by omega)]; simp
theorem isW_append {xs ys : List Int} (h : IsW xs) (k : IsW ys) : IsW (xs ++ ys) := isW_of_mem (by
  intro x hx
  rcases List.mem_append.1 hx with hx | hx
  · exact isW_mem h x hx
  · exact isW_mem k x hx)
def firstI (L : List Int) (E : Int) : Int := if L = [] then E else ofI (L.getD 0 0)
def endsI (L : List Int) (E : Int) (i : Nat) : Int := if i + 1 < L.length then ofI (L.getD (i + 1) 0) else E
def GoodAt (L : List Int) (E : Int) (i : Nat) : Prop := ofI (L.getD i 0) < E ∧ (0 < i → epI (L.getD (i - 1) 0) < epI (L.getD i 0) ∧ ofI (L.getD (i - 1) 0) < ofI (L.getD i 0))
def GoodT (L : List Int) (E : Int) : Prop := (∀ i, i < L.length → GoodAt L E i) ∧ 0 ≤ E ∧ E ≤ 17592186044416
instance (L : List Int) (E : Int) (i : Nat) : Decidable (GoodAt L E i) := by unfold GoodAt; infer_instance
instance (L : List Int) (E : Int) : Decidable (GoodT L E) := by unfold GoodT; infer_instance
set_option maxHeartbeats 400000 in
theorem tbl_first (a : Option Addr) (n c : Nat) (L : List Int) (E : Int) (w : World) (hS : Sl .u64 w a n c L) (hW : IsW L) :
    Calls Try.prog 39 #[.agg #[.slice a n c, .int .i64 E]] w fun e w' => e = .returned (.int .i64 (firstI L E)) ∧ Kept w w' := by
  have K1 := ((Only.refl [] w).alloc (.cells #[.slice a n c, .int .i64 E] 24)).kept
  have hS1 := K1.sl hS
  have hh := heap_alloc_new w (.cells #[.slice a n c, .int .i64 E] 24)
  have d0 := at_cell hh 0 _ rfl
  have d1 := at_cell hh 1 _ rfl
  have hl := hS.1
  by_cases h0 : n = 0
  · have hL : L = [] := List.eq_nil_of_length_eq_zero (by omega)
    subst h0 hL
    have hf : firstI [] E = E := rfl
    rw [hf]
    clear hS hS1 hh
    go_enter Try.func39, Try.ntmps39
    go_wp2
    go_ret
    exact ⟨rfl, K1⟩
  · have hf : firstI L E = ofI (L.getD 0 0) := if_neg (by intro h; rw [h] at hl; simp at hl; omega)
    obtain ⟨b, o, x, rfl, hx, hxv⟩ := hS1.at 0 (by omega)
    have hv := hxv.out
    have hb := hW 0
    rw [← hv] at hf hb
    obtain ⟨b0, b1⟩ := hb
    rw [hf]
    rw [Nat.add_zero] at hx
    have hn : ((n : Int) == 0) = false := by simp; omega
    have hn1 : 0 < (n : Int) := by omega
    clear hS hS1 hh hW hv hxv hf h0
    go_enter Try.func39, Try.ntmps39
    go_wp2_with fail
    refine (stamp_off x _ b0 b1).mono ?_
    rintro e w' ⟨rfl, rfl⟩
    go_wp2
    go_ret
    exact ⟨rfl, K1⟩
set_option maxHeartbeats 400000 in
theorem tbl_ends (a : Option Addr) (n c : Nat) (L : List Int) (E : Int) (i : Nat) (w : World) (hS : Sl .u64 w a n c L) (hW : IsW L) (hi : i < n) :
    Calls Try.prog 46 #[.agg #[.slice a n c, .int .i64 E], .int .i64 i] w fun e w' => e = .returned (.int .i64 (endsI L E i)) ∧ Kept w w' := by
  have K1 := ((Only.refl [] w).alloc (.cells #[.slice a n c, .int .i64 E] 24)).kept
  have hS1 := K1.sl hS
  have hh := heap_alloc_new w (.cells #[.slice a n c, .int .i64 E] 24)
  have d0 := at_cell hh 0 _ rfl
  have d1 := at_cell hh 1 _ rfl
  have hl := hS.1
  have hnc := hS.2.1
  have hcm := hS.2.2.1
  unfold maxLen at hcm
  by_cases h0 : i + 1 < n
  · have hf : endsI L E i = ofI (L.getD (i + 1) 0) := if_pos (by omega)
    obtain ⟨b, o, x, rfl, hx, hxv⟩ := hS1.at (i + 1) h0
    have hv := hxv.out
    have hb := hW (i + 1)
    rw [← hv] at hf hb
    obtain ⟨b0, b1⟩ := hb
    rw [hf]
    have hn1 : (i : Int) + 1 < n := by omega
    clear hS hS1 hh hW hv hxv hf h0
    go_enter Try.func46, Try.ntmps46
    go_wp2_with fail
    refine (stamp_off x _ b0 b1).mono ?_
    rintro e w' ⟨rfl, rfl⟩
    go_wp2
    go_ret
    exact ⟨rfl, K1⟩
  · have hf : endsI L E i = E := if_neg (by omega)
    rw [hf]
    have hn1 : (n : Int) ≤ i + 1 := by omega
    clear hS hS1 hh hf h0
    go_enter Try.func46, Try.ntmps46
    go_wp2
    go_ret
    exact ⟨rfl, K1⟩
end Go.Proofs.Ytmkoabalakfehaa
