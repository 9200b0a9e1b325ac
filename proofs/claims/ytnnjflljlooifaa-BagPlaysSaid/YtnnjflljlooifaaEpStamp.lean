/- A stamp's parts: Off, Epoch, Pack. -/
import Derived.Test.YtnnjflljlooifaaMem
set_option linter.unusedVariables false
set_option linter.unusedSimpArgs false
namespace Go.Proofs.Ytnnjflljlooifaa
open Go.RowKit
def epI (s : Int) : Int := s / 17592186044416
def ofI (s : Int) : Int := s % 17592186044416
theorem ofInt_nat64 (a : Nat) (ha : a < 18446744073709551616) : (BitVec.ofInt 64 (a : Int)).toNat = a := by
  rw [BitVec.ofInt_natCast, BitVec.toNat_ofNat]; exact Nat.mod_eq_of_lt (by omega)
theorem and_mask (x : Int) (h0 : 0 ≤ x) (h1 : x ≤ 18446744073709551615) : bits .and .u64 x 17592186044415 = x % 17592186044416 := by
  obtain ⟨a, rfl⟩ := Int.eq_ofNat_of_zero_le h0
  have e : (BitVec.ofInt 64 (17592186044415 : Int)).toNat = 2 ^ 44 - 1 := by decide
  show IntKind.u64.wrap ((BitVec.ofInt 64 (a : Int) &&& BitVec.ofInt 64 (17592186044415 : Int)).toNat : Int) = _
  rw [BitVec.toNat_and, ofInt_nat64 a (by omega), e, Nat.and_two_pow_sub_one_eq_mod, IntKind.wrap_u64]; omega
theorem or_low (e o : Int) (e0 : 0 ≤ e) (e1 : e < 524288) (o0 : 0 ≤ o) (o1 : o ≤ 17592186044415) : bits .or .i64 (e * 17592186044416) o = e * 17592186044416 + o := by
  obtain ⟨a, rfl⟩ := Int.eq_ofNat_of_zero_le e0
  obtain ⟨b, rfl⟩ := Int.eq_ofNat_of_zero_le o0
  have h : 17592186044416 * a + b = 17592186044416 * a ||| b := Nat.two_pow_add_eq_or_of_lt (i := 44) (by omega) a
  have hm : ((a : Int) * 17592186044416) = ((17592186044416 * a : Nat) : Int) := by omega
  show IntKind.i64.wrap ((BitVec.ofInt 64 ((a : Int) * 17592186044416) ||| BitVec.ofInt 64 (b : Int)).toNat : Int) = _
  rw [hm, BitVec.toNat_or, ofInt_nat64 _ (by omega), ofInt_nat64 b (by omega), ← h, IntKind.wrap_i64]; omega
theorem stamp_off (s : Int) (w : World) (h0 : 0 ≤ s) (h1 : s ≤ 18446744073709551615) : Calls Try.prog 37 #[.int .u64 s] w fun e w' => e = .returned (.int .i64 (ofI s)) ∧ w = w' := by
  have hm := and_mask s h0 h1
  go_enter Try.func37, Try.ntmps37
  go_wp2
  go_ret
  refine ⟨ret_int ?_, rfl⟩
  unfold ofI
  omega
theorem stamp_epoch (s : Int) (w : World) (h0 : 0 ≤ s) (h1 : s ≤ 18446744073709551615) : Calls Try.prog 38 #[.int .u64 s] w fun e w' => e = .returned (.int .i64 (epI s)) ∧ w = w' := by
  go_enter Try.func38, Try.ntmps38
  go_wp2
  go_ret
  refine ⟨ret_int ?_, rfl⟩
  unfold epI
  omega
/-- words -/
def IsW (zs : List Int) : Prop := ∀ i, 0 ≤ zs.getD i 0 ∧ zs.getD i 0 ≤ 18446744073709551615
theorem isW_mem {zs : List Int} (h : IsW zs) : ∀ x ∈ zs, 0 ≤ x ∧ x ≤ 18446744073709551615 := by
  intro x hx
  obtain ⟨i, hi, rfl⟩ := List.mem_iff_getElem.1 hx
  have := h i
  rwa [List.getD_eq_getElem?_getD, List.getElem?_eq_getElem hi] at this
theorem isW_of_mem {zs : List Int} (h : ∀ x ∈ zs, 0 ≤ x ∧ x ≤ 18446744073709551615) : IsW zs := by
  intro i
  rw [List.getD_eq_getElem?_getD]
  by_cases hi : i < zs.length
  · rw [List.getElem?_eq_getElem hi]; exact h _ (List.getElem_mem hi)
  · rw [List.getElem?_eq_none (by omega)]; simp
theorem isW_append {xs ys : List Int} (h : IsW xs) (k : IsW ys) : IsW (xs ++ ys) := isW_of_mem (by
  intro x hx
  rcases List.mem_append.1 hx with hx | hx
  · exact isW_mem h x hx
  · exact isW_mem k x hx)
def firstI (L : List Int) (E : Int) : Int := if L = [] then E else ofI (L.getD 0 0)
def endsI (L : List Int) (E : Int) (i : Nat) : Int := if i + 1 < L.length then ofI (L.getD (i + 1) 0) else E
def GoodAt (L : List Int) (E : Int) (i : Nat) : Prop := ofI (L.getD i 0) < E ∧ (0 < i → epI (L.getD (i - 1) 0) < epI (L.getD i 0) ∧ ofI (L.getD (i - 1) 0) < ofI (L.getD i 0))
def GoodT (L : List Int) (E : Int) : Prop := (∀ i, i < L.length → GoodAt L E i) ∧ 0 ≤ E ∧ E ≤ 17592186044416
instance (L : List Int) (E : Int) (i : Nat) : Decidable (GoodAt L E i) := by unfold GoodAt; infer_instance
instance (L : List Int) (E : Int) : Decidable (GoodT L E) := by unfold GoodT; infer_instance
end Go.Proofs.Ytnnjflljlooifaa
