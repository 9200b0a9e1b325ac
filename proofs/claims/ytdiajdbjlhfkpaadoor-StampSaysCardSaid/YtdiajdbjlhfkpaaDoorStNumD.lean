/- The document's number: the loop. -/
import Derived.Test.YtdiajdbjlhfkpaaDoorStNumW
set_option linter.unusedVariables false
set_option linter.unusedSimpArgs false
namespace Go.Proofs.YtdiajdbjlhfkpaaDoor
open Go.RowKit
def numV : Option Nat → Value
  | some n => .tuple #[.int .i64 (n : Nat), .bool true]
  | none => .tuple #[.int .i64 0, .bool false]
theorem numP_drop (l : List UInt8) (i a : Nat) (h : i < l.length) : numP (l.drop i) a = if (l[i]).toNat < 48 ∨ 57 < (l[i]).toNat then none else numP (l.drop (i + 1)) (10 * a + ((l[i]).toNat - 48)) := by
  rw [List.drop_eq_getElem_cons h]
  rfl
set_option maxRecDepth 100000 in
set_option maxHeartbeats 4000000 in
theorem rs_number_d (s : ByteArray) (h0 : 0 < s.size) (h2 : s.size ≤ 15) (h3 : s.size = 1 ∨ (1 < s.size ∧ ((s[0]'h0).toNat : Int) ≠ 48)) (w : World) : Calls Tryd.prog 35 #[.string s] w fun e w' => e = .returned (numV (numP s.data.toList 0)) ∧ w = w' := by
  have hE := ne_isE s h0
  have hl : (s.size : Int) ≤ 15 := by omega
  have HN := Lib.hid (fun i a h => numP_drop s.data.toList i a h)
  obtain ⟨R, hR⟩ : ∃ R, numP s.data.toList 0 = R := ⟨_, rfl⟩
  have HR := Lib.hid hR
  rw [hR]
  clear hR
  have HB := Lib.hid (show ∀ i : Nat, i ≤ 14 → (10 : Nat) ^ i ≤ 100000000000000 from fun i hi => Nat.le_trans (Nat.pow_le_pow_right (by omega) hi) (by decide))
  have hcase : ((s.size : Int) ≤ 1) ∨ ((1 : Int) < s.size ∧ (((s[0]'h0).toNat : Int) == 48) = false) := by
    rcases h3 with h3 | ⟨h3, h4⟩
    · exact .inl (by omega)
    · exact .inr ⟨by omega, by rw [beq_eq_false_iff_ne]; exact h4⟩
  clear h3
  rcases hcase with h3 | ⟨h3, h4⟩
  all_goals
    go_enter Tryd.func35, Tryd.ntmps35
    go_wp2_with fail
    go_loopw [4, 5] (fun va vi wr => ∃ (i a : Nat), vi = .int .i64 (i : Nat) ∧ i ≤ s.size ∧ va = .int .i64 (a : Nat) ∧ a < 10 ^ i ∧ Hid (numP (s.data.toList.drop i) a = R) ∧ wr = w) (fun _ vi _ => s.size - (intOf vi).toNat)
    case atStart => exact ⟨0, 0, rfl, by omega, rfl, by decide, by rw [List.drop_zero]; exact HR.out, rfl⟩
    case round =>
      obtain ⟨i, a, rfl, hi, rfl, ha, Hp, rfl⟩ := hrel
      by_cases hlt : i < s.size
      · have hlt' : (i : Int) < s.size := by omega
        have hN := HN.out i a hlt
        have h10 := HB.out i (by omega)
        have ha2 : (a : Int) < 100000000000000 := by omega
        have hb : s.data.toList[i]'hlt = s[i]'hlt := rfl
        rw [hb, Hp.out] at hN
        have hb8 : (s[i]'hlt).toNat < 256 := (s[i]'hlt).toNat_lt
        clear hb HN HR HB h10
        by_cases c1 : (s[i]'hlt).toNat < 48
        · have c1' : (((s[i]'hlt).toNat : Nat) : Int) < 48 := by omega
          rw [if_pos (.inl c1)] at hN
          subst hN
          clear c1 hb8
          go_wp2_with fail
          exact bodyPost_ret (v := .tuple #[.int .i64 0, .bool false]) (by simp [results, Tryd.results35, go_sem]) rfl ⟨rfl, rfl⟩
        · have c1' : (48 : Int) ≤ (((s[i]'hlt).toNat : Nat) : Int) := by omega
          by_cases c2 : 57 < (s[i]'hlt).toNat
          · have c2' : (57 : Int) < (((s[i]'hlt).toNat : Nat) : Int) := by omega
            rw [if_pos (.inr c2)] at hN
            subst hN
            clear c1 c2 hb8
            go_wp2_with fail
            exact bodyPost_ret (v := .tuple #[.int .i64 0, .bool false]) (by simp [results, Tryd.results35, go_sem]) rfl ⟨rfl, rfl⟩
          · have c2' : (((s[i]'hlt).toNat : Nat) : Int) ≤ 57 := by omega
            rw [if_neg (by omega)] at hN
            have HP2 := Lib.hid hN.symm
            have ha3 : 10 * a + ((s[i]'hlt).toNat - 48) < 10 ^ (i + 1) := by rw [Nat.pow_succ]; omega
            have hcast : ((10 * a + ((s[i]'hlt).toNat - 48) : Nat) : Int) = 10 * (a : Int) + (((s[i]'hlt).toNat : Int) - 48) := by omega
            have HC := Lib.hid hcast
            have HA3 := Lib.hid ha3
            have W2 : IntKind.i64.wrap (10 * (a : Int)) = 10 * (a : Int) := by rw [IntKind.wrap_i64]; omega
            have W3 : IntKind.i64.wrap (10 * (a : Int) + ((((s[i]'hlt).toNat : Nat) : Int) - 48)) = 10 * (a : Int) + ((((s[i]'hlt).toNat : Nat) : Int) - 48) := by rw [IntKind.wrap_i64]; omega
            clear c1 c2 hb8 hN Hp ha ha3 hcast ha2
            go_wp2_with fail
            go_roundw
            case rel => exact ⟨i + 1, 10 * a + ((s[i]'hlt).toNat - 48), by go_num, by omega, by rw [HC.out], HA3.out, HP2.out, trivial⟩
            case measure => simp [intOf]; omega
      · have hge : (s.size : Int) ≤ i := by omega
        have hp := Hp.out
        rw [List.drop_eq_nil_of_le (by show s.data.toList.length ≤ i; have : s.data.toList.length = s.size := rfl; omega)] at hp
        have hp : some a = R := hp
        subst hp
        go_wp2_with fail
        exact bodyPost_ret (v := .tuple #[.int .i64 a, .bool true]) (by simp [results, Tryd.results35, go_sem]) rfl ⟨rfl, rfl⟩
end Go.Proofs.YtdiajdbjlhfkpaaDoor
