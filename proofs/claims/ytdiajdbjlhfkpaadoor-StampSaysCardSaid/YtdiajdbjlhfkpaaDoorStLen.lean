/- bits.Len64; Narrow. -/
import Derived.Test.YtdiajdbjlhfkpaaDoorStSmall
set_option linter.unusedVariables false
set_option linter.unusedSimpArgs false
namespace Go.Proofs.YtdiajdbjlhfkpaaDoor
open Go.RowKit
def len8 (x : Nat) : Int := if x = 0 then 0 else (Nat.log2 x : Int) + 1
theorem len8_spec (x b : Nat) (hx : x < 256) (hb : b ≤ 64) : (len8 x ≤ b ↔ (x : Int) < 2 ^ b) ∧ 0 ≤ len8 x ∧ len8 x ≤ 8 := by
  have h : ∀ x : Fin 256, ∀ b : Fin 65, (len8 x.val ≤ b.val ↔ (x.val : Int) < 2 ^ b.val) ∧ 0 ≤ len8 x.val ∧ len8 x.val ≤ 8 := by decide +kernel
  exact h ⟨x, hx⟩ ⟨b, by omega⟩
theorem len_split (u : Int) (x k b : Nat) (h0 : 0 ≤ u) (hk : k ≤ 56) (hb : b ≤ 64) (hx : u / 2 ^ k = x) (hx2 : x < 256) (hlo : k = 0 ∨ 2 ^ k ≤ u) : ((k : Int) + len8 x ≤ b ↔ u < 2 ^ b) := by
  obtain ⟨l1, l2, l3⟩ := len8_spec x (b - k) hx2 (by omega)
  have hp : (0 : Int) < 2 ^ k := Int.pow_pos (by omega)
  by_cases hbk : k ≤ b
  · have e : ((2 : Int) ^ b) = 2 ^ (b - k) * 2 ^ k := by rw [← Int.pow_add]; congr 1; omega
    rw [e, ← Int.ediv_lt_iff_lt_mul hp, hx, ← l1]
    omega
  · have hlo' : (2 : Int) ^ k ≤ u := by
      rcases hlo with h | h
      · omega
      · exact h
    have e : ((2 : Int) ^ k) = 2 ^ (k - b) * 2 ^ b := by rw [← Int.pow_add]; congr 1; omega
    have hq : (1 : Int) ≤ 2 ^ (k - b) := Int.pow_pos (by omega)
    have hr : (0 : Int) < 2 ^ b := Int.pow_pos (by omega)
    have : (2 : Int) ^ b ≤ 2 ^ k := by
      have h := Int.mul_le_mul_of_nonneg_right hq (Int.le_of_lt hr)
      rw [Int.one_mul] at h
      rw [e]
      exact h
    constructor
    · intro h; omega
    · intro h; omega
set_option maxRecDepth 100000 in
set_option maxHeartbeats 4000000 in
theorem len64 (u : Int) (w : World) (h0 : 0 ≤ u) (h1 : u ≤ 18446744073709551615) :
    Calls Tryd.prog 31 #[.int .u64 u] w fun e w' => (∃ n : Int, e = .returned (.int .i64 n) ∧ 0 ≤ n ∧ n ≤ 64 ∧ ∀ b : Nat, b ≤ 64 → (n ≤ b ↔ u < 2 ^ b)) ∧ w = w' := by
  have hcase : (0 ≤ u ∧ u ≤ 255) ∨ (256 ≤ u ∧ u ≤ 65535) ∨ (65536 ≤ u ∧ u ≤ 16777215) ∨ (16777216 ≤ u ∧ u ≤ 4294967295) ∨ (4294967296 ≤ u ∧ u ≤ 1099511627775) ∨ (1099511627776 ≤ u ∧ u ≤ 281474976710655) ∨ (281474976710656 ≤ u ∧ u ≤ 72057594037927935) ∨ (72057594037927936 ≤ u ∧ u ≤ 18446744073709551615) := by omega
  rcases hcase with ⟨l, r⟩ | ⟨l, r⟩ | ⟨l, r⟩ | ⟨l, r⟩ | ⟨l, r⟩ | ⟨l, r⟩ | ⟨l, r⟩ | ⟨l, r⟩
  · have hx : u / 2 ^ 0 = ((u).toNat : Nat) := by
      rw [show (2 : Int) ^ 0 = 1 by decide]; omega
    have hx2 : (u).toNat < 256 := by omega
    have hsp := Lib.hid (fun b hb => len_split u (u).toNat 0 b h0 (by omega) hb hx hx2 (.inl rfl))
    have hl8 := (len8_spec (u).toNat 0 hx2 (by omega)).2
    clear hx
    go_enter Tryd.func31, Tryd.ntmps31
    go_wp2
    go_ret
    refine ⟨⟨0 + len8 (u).toNat, ret_int ?_, by omega, by omega, fun b hb => hsp.out b hb⟩, rfl⟩
    clear hsp hl8
    rw [← getElem!_pos]
    generalize (u).toNat = x at *
    clear l r h0 h1
    revert hx2
    revert x
    decide +kernel
  · have hx : u / 2 ^ 8 = ((u / 256).toNat : Nat) := by
      rw [show (2 : Int) ^ 8 = 256 by decide]; omega
    have hx2 : (u / 256).toNat < 256 := by omega
    have hsp := Lib.hid (fun b hb => len_split u (u / 256).toNat 8 b h0 (by omega) hb hx hx2 (.inr (by rw [show (2 : Int) ^ 8 = 256 by decide]; omega)))
    have hl8 := (len8_spec (u / 256).toNat 0 hx2 (by omega)).2
    clear hx
    go_enter Tryd.func31, Tryd.ntmps31
    go_wp2
    go_ret
    refine ⟨⟨8 + len8 (u / 256).toNat, ret_int ?_, by omega, by omega, fun b hb => hsp.out b hb⟩, rfl⟩
    clear hsp hl8
    rw [← getElem!_pos]
    generalize (u / 256).toNat = x at *
    clear l r h0 h1
    revert hx2
    revert x
    decide +kernel
  · have hx : u / 2 ^ 16 = ((u / 65536).toNat : Nat) := by
      rw [show (2 : Int) ^ 16 = 65536 by decide]; omega
    have hx2 : (u / 65536).toNat < 256 := by omega
    have hsp := Lib.hid (fun b hb => len_split u (u / 65536).toNat 16 b h0 (by omega) hb hx hx2 (.inr (by rw [show (2 : Int) ^ 16 = 65536 by decide]; omega)))
    have hl8 := (len8_spec (u / 65536).toNat 0 hx2 (by omega)).2
    clear hx
    go_enter Tryd.func31, Tryd.ntmps31
    go_wp2
    go_ret
    refine ⟨⟨16 + len8 (u / 65536).toNat, ret_int ?_, by omega, by omega, fun b hb => hsp.out b hb⟩, rfl⟩
    clear hsp hl8
    rw [← getElem!_pos]
    generalize (u / 65536).toNat = x at *
    clear l r h0 h1
    revert hx2
    revert x
    decide +kernel
  · have hx : u / 2 ^ 24 = ((u / 65536 / 256).toNat : Nat) := by
      rw [show (2 : Int) ^ 24 = 16777216 by decide]; omega
    have hx2 : (u / 65536 / 256).toNat < 256 := by omega
    have hsp := Lib.hid (fun b hb => len_split u (u / 65536 / 256).toNat 24 b h0 (by omega) hb hx hx2 (.inr (by rw [show (2 : Int) ^ 24 = 16777216 by decide]; omega)))
    have hl8 := (len8_spec (u / 65536 / 256).toNat 0 hx2 (by omega)).2
    clear hx
    go_enter Tryd.func31, Tryd.ntmps31
    go_wp2
    go_ret
    refine ⟨⟨24 + len8 (u / 65536 / 256).toNat, ret_int ?_, by omega, by omega, fun b hb => hsp.out b hb⟩, rfl⟩
    clear hsp hl8
    rw [← getElem!_pos]
    generalize (u / 65536 / 256).toNat = x at *
    clear l r h0 h1
    revert hx2
    revert x
    decide +kernel
  · have hx : u / 2 ^ 32 = ((u / 4294967296).toNat : Nat) := by
      rw [show (2 : Int) ^ 32 = 4294967296 by decide]; omega
    have hx2 : (u / 4294967296).toNat < 256 := by omega
    have hsp := Lib.hid (fun b hb => len_split u (u / 4294967296).toNat 32 b h0 (by omega) hb hx hx2 (.inr (by rw [show (2 : Int) ^ 32 = 4294967296 by decide]; omega)))
    have hl8 := (len8_spec (u / 4294967296).toNat 0 hx2 (by omega)).2
    clear hx
    go_enter Tryd.func31, Tryd.ntmps31
    go_wp2
    go_ret
    refine ⟨⟨32 + len8 (u / 4294967296).toNat, ret_int ?_, by omega, by omega, fun b hb => hsp.out b hb⟩, rfl⟩
    clear hsp hl8
    rw [← getElem!_pos]
    generalize (u / 4294967296).toNat = x at *
    clear l r h0 h1
    revert hx2
    revert x
    decide +kernel
  · have hx : u / 2 ^ 40 = ((u / 4294967296 / 256).toNat : Nat) := by
      rw [show (2 : Int) ^ 40 = 1099511627776 by decide]; omega
    have hx2 : (u / 4294967296 / 256).toNat < 256 := by omega
    have hsp := Lib.hid (fun b hb => len_split u (u / 4294967296 / 256).toNat 40 b h0 (by omega) hb hx hx2 (.inr (by rw [show (2 : Int) ^ 40 = 1099511627776 by decide]; omega)))
    have hl8 := (len8_spec (u / 4294967296 / 256).toNat 0 hx2 (by omega)).2
    clear hx
    go_enter Tryd.func31, Tryd.ntmps31
    go_wp2
    go_ret
    refine ⟨⟨40 + len8 (u / 4294967296 / 256).toNat, ret_int ?_, by omega, by omega, fun b hb => hsp.out b hb⟩, rfl⟩
    clear hsp hl8
    rw [← getElem!_pos]
    generalize (u / 4294967296 / 256).toNat = x at *
    clear l r h0 h1
    revert hx2
    revert x
    decide +kernel
  · have hx : u / 2 ^ 48 = ((u / 4294967296 / 65536).toNat : Nat) := by
      rw [show (2 : Int) ^ 48 = 281474976710656 by decide]; omega
    have hx2 : (u / 4294967296 / 65536).toNat < 256 := by omega
    have hsp := Lib.hid (fun b hb => len_split u (u / 4294967296 / 65536).toNat 48 b h0 (by omega) hb hx hx2 (.inr (by rw [show (2 : Int) ^ 48 = 281474976710656 by decide]; omega)))
    have hl8 := (len8_spec (u / 4294967296 / 65536).toNat 0 hx2 (by omega)).2
    clear hx
    go_enter Tryd.func31, Tryd.ntmps31
    go_wp2
    go_ret
    refine ⟨⟨48 + len8 (u / 4294967296 / 65536).toNat, ret_int ?_, by omega, by omega, fun b hb => hsp.out b hb⟩, rfl⟩
    clear hsp hl8
    rw [← getElem!_pos]
    generalize (u / 4294967296 / 65536).toNat = x at *
    clear l r h0 h1
    revert hx2
    revert x
    decide +kernel
  · have hx : u / 2 ^ 56 = ((u / 4294967296 / 65536 / 256).toNat : Nat) := by
      rw [show (2 : Int) ^ 56 = 72057594037927936 by decide]; omega
    have hx2 : (u / 4294967296 / 65536 / 256).toNat < 256 := by omega
    have hsp := Lib.hid (fun b hb => len_split u (u / 4294967296 / 65536 / 256).toNat 56 b h0 (by omega) hb hx hx2 (.inr (by rw [show (2 : Int) ^ 56 = 72057594037927936 by decide]; omega)))
    have hl8 := (len8_spec (u / 4294967296 / 65536 / 256).toNat 0 hx2 (by omega)).2
    clear hx
    go_enter Tryd.func31, Tryd.ntmps31
    go_wp2
    go_ret
    refine ⟨⟨56 + len8 (u / 4294967296 / 65536 / 256).toNat, ret_int ?_, by omega, by omega, fun b hb => hsp.out b hb⟩, rfl⟩
    clear hsp hl8
    rw [← getElem!_pos]
    generalize (u / 4294967296 / 65536 / 256).toNat = x at *
    clear l r h0 h1
    revert hx2
    revert x
    decide +kernel
theorem st_narrow (u : Int) (b : Nat) (w : World) (h0 : 0 ≤ u) (h1 : u ≤ 18446744073709551615) (b0 : 1 ≤ b) (b1 : b ≤ 64) :
    Calls Tryd.prog 17 #[.int .u64 u, .int .i64 b] w fun e w' => e = .returned (.tuple #[.int .u64 (if u < 2 ^ b then u else 0), .bool (decide (u < 2 ^ b))]) ∧ w = w' := by
  have HL := Lib.hid (len64 u w h0 h1)
  by_cases h : u < 2 ^ b
  · rw [if_pos h, decide_eq_true h]
    go_enter Tryd.func17, Tryd.ntmps17
    go_wp2_with fail
    refine HL.out.mono ?_
    rintro e w' ⟨⟨n, rfl, n0, n1, hn⟩, rfl⟩
    have hnb : n ≤ b := (hn b b1).2 h
    clear hn HL
    go_wp2
    exact bodyPost_ret (v := .tuple #[.int .u64 u, .bool true]) (by simp [results, Tryd.results17, go_sem]) rfl ⟨rfl, rfl⟩
  · rw [if_neg h, decide_eq_false h]
    go_enter Tryd.func17, Tryd.ntmps17
    go_wp2_with fail
    refine HL.out.mono ?_
    rintro e w' ⟨⟨n, rfl, n0, n1, hn⟩, rfl⟩
    have hnb : ¬ n ≤ b := fun h' => Int.not_lt.2 h ((hn b b1).1 h')
    have hnb' : (b : Int) < n := by omega
    clear hn HL
    go_wp2
    exact bodyPost_ret (v := .tuple #[.int .u64 0, .bool false]) (by simp [results, Tryd.results17, go_sem]) rfl ⟨rfl, rfl⟩
end Go.Proofs.YtdiajdbjlhfkpaaDoor
