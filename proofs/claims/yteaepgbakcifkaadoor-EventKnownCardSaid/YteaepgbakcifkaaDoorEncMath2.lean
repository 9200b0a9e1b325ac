/- The plain mathematics of reading: what was written is read again; no first part of it is all. No program is in sight. -/
import Derived.Test.YteaepgbakcifkaaDoorEncMath
import Derived.Test.YteaepgbakcifkaaDoorPlain
set_option linter.unusedVariables false
set_option linter.unusedSimpArgs false
namespace Go.Proofs.YteaepgbakcifkaaDoor
theorem rdF_enc : ∀ (f k : Nat) (acc v : Int) (l : List Int), f + 1 + k = 10 → 0 ≤ v → v * 2 ^ (7 * k) ≤ 18446744073709551615 → (0 < k → 0 < v) → rdF (f + 1) k acc (encF f v ++ l) = some (acc + v * 2 ^ (7 * k), l)
  | 0, k, acc, v, l, hk, h0, h1, hp => by
    obtain rfl : k = 9 := by omega
    have hv := hp (by omega)
    have hv1 : v ≤ 1 := by simp only [Nat.reduceMul, Int.reducePow] at h1; omega
    obtain rfl : v = 1 := by omega
    simp [encF, rdF]
  | f + 1, k, acc, v, l, hk, h0, h1, hp => by
    rw [encF]
    split
    · rename_i hlt
      have : ¬ (128 ≤ v) := by omega
      rw [List.singleton_append, rdF, if_neg this, if_neg (by omega), Int.emod_eq_of_lt h0 (by omega)]
    · rename_i hge
      have hb : 128 ≤ v % 128 + 128 := by omega
      have hm : (v % 128 + 128) % 128 = v % 128 := by omega
      have e7 : (2 : Int) ^ (7 * (k + 1)) = 2 ^ (7 * k) * 128 := by rw [Nat.mul_add, Int.pow_add]; rfl
      have hv : v = v % 128 + 128 * (v / 128) := by omega
      have hq : (v / 128) * (2 ^ (7 * k) * 128) + (v % 128) * 2 ^ (7 * k) = v * 2 ^ (7 * k) := by
        conv => rhs; rw [hv]
        generalize (2 : Int) ^ (7 * k) = P
        generalize v % 128 = a
        generalize v / 128 = q
        rw [Int.add_mul, Int.mul_assoc 128, Int.mul_comm P 128, ← Int.mul_assoc q 128 P, Int.mul_comm q 128, Int.mul_assoc 128]
        omega
      have hP : (0 : Int) ≤ 2 ^ (7 * k) := Int.le_of_lt (Int.pow_pos (by omega))
      have hpos : 0 ≤ (v % 128) * 2 ^ (7 * k) := Int.mul_nonneg (by omega) hP
      rw [List.cons_append, rdF, if_pos hb, hm, rdF_enc f (k + 1) _ (v / 128) l (by omega) (by omega) (by rw [e7]; omega) (fun _ => by omega), e7]
      congr 2
      omega
theorem rdU_enc (v : Int) (l : List Int) (h0 : 0 ≤ v) (h1 : v ≤ 18446744073709551615) : rdU (encU v ++ l) = some (v, l) := by
  have := rdF_enc 9 0 0 v l (by omega) h0 (by simpa using h1) (by omega)
  simpa [rdU, encU] using this
theorem rdF_mono : ∀ (f k : Nat) (v : Int) (p q r : List Int) (x : Int), rdF f k v p = some (x, r) → rdF f k v (p ++ q) = some (x, r ++ q)
  | 0, k, v, p, q, r, x, h => by simp [rdF] at h
  | f + 1, k, v, [], q, r, x, h => by simp [rdF] at h
  | f + 1, k, v, b :: p, q, r, x, h => by
    rw [rdF] at h
    rw [List.cons_append, rdF]
    split at h
    · rename_i hb; rw [if_pos hb]; exact rdF_mono f _ _ p q r x h
    · rename_i hb
      rw [if_neg hb]
      split at h
      · cases h
      · rename_i hc
        rw [if_neg hc]
        simp only [Option.some.injEq, Prod.mk.injEq] at h
        obtain ⟨rfl, rfl⟩ := h
        rfl
/-- a state: what is left, and whether it is bad -/
abbrev St := List Int × Bool
def fold (v : Int) : Int := if 0 ≤ v then 2 * v else -2 * v - 1
def unfold (u : Int) : Int := if u % 2 = 0 then u / 2 else -1 - u / 2
theorem unfold_fold (v : Int) : unfold (fold v) = v := by unfold unfold fold; split <;> split <;> omega
theorem fold_unfold (u : Int) (h : 0 ≤ u) : fold (unfold u) = u := by unfold unfold fold; split <;> split <;> omega
theorem fold_bd (v : Int) (h0 : -9223372036854775808 ≤ v) (h1 : v ≤ 9223372036854775807) : 0 ≤ fold v ∧ fold v ≤ 18446744073709551615 := by unfold fold; split <;> omega
theorem unfold_bd (u : Int) (h0 : 0 ≤ u) (h1 : u ≤ 18446744073709551615) : -9223372036854775808 ≤ unfold u ∧ unfold u ≤ 9223372036854775807 := by unfold unfold; split <;> omega
def stU (s : St) : Int × St := if s.2 = true then (0, [], true) else rdV s.1
def stI (s : St) : Int × St := (unfold (stU s).1, (stU s).2)
def stS (most : Int) (s : St) : List Int × St :=
  if (stU s).2.2 = true ∨ most < 0 ∨ most < (stU s).1 ∨ ((stU s).2.1.length : Int) < (stU s).1 then ([], [], true) else ((stU s).2.1.take (stU s).1.toNat, (stU s).2.1.drop (stU s).1.toNat, false)
def stSmall (most : Int) (s : St) : Int × St :=
  if (stU s).2.2 = true ∨ most < (stU s).1 ∨ 2147483647 < (stU s).1 then (0, [], true) else ((stU s).1, (stU s).2)
/-- what S writes -/
def encS (s : List Int) : List Int := encU s.length ++ s
theorem stU_enc (v : Int) (l : List Int) (h0 : 0 ≤ v) (h1 : v ≤ 18446744073709551615) : stU (encU v ++ l, false) = (v, l, false) := by
  simp [stU, rdV, rdU_enc v l h0 h1]
theorem stI_enc (v : Int) (l : List Int) (h0 : -9223372036854775808 ≤ v) (h1 : v ≤ 9223372036854775807) : stI (encU (fold v) ++ l, false) = (v, l, false) := by
  obtain ⟨a, b⟩ := fold_bd v h0 h1
  simp [stI, stU_enc _ l a b, unfold_fold]
theorem stS_enc (s l : List Int) (m : Int) (hm : (s.length : Int) ≤ m) (hs : s.length ≤ 18446744073709551615) : stS m (encS s ++ l, false) = (s, l, false) := by
  have h := stU_enc s.length (s ++ l) (by omega) (by omega)
  unfold stS encS
  rw [List.append_assoc, h]
  simp only [Int.toNat_natCast, List.take_left, List.drop_left, List.length_append]
  rw [if_neg (by simp; omega)]
/-- what a bad state stays -/
theorem stU_bad (s : St) (h : s.2 = true) : stU s = (0, [], true) := by simp [stU, h]
theorem stI_bad (s : St) (h : s.2 = true) : (stI s).2.2 = true := by simp [stI, stU_bad s h]
theorem stS_bad (m : Int) (s : St) (h : s.2 = true) : (stS m s).2.2 = true := by simp [stS, stU_bad s h]
theorem stU_mono (p q : List Int) (h : (stU (p, false)).2.2 = false) : stU (p ++ q, false) = ((stU (p, false)).1, (stU (p, false)).2.1 ++ q, false) := by
  simp only [stU, rdV, Bool.false_eq_true, if_false] at h ⊢
  cases hr : rdU p with
  | none => simp [hr] at h
  | some x =>
    obtain ⟨v, r⟩ := x
    have := rdF_mono 10 0 0 p q r v hr
    simp only [rdU] at this ⊢
    rw [this]
theorem stI_mono (p q : List Int) (h : (stI (p, false)).2.2 = false) : stI (p ++ q, false) = ((stI (p, false)).1, (stI (p, false)).2.1 ++ q, false) := by
  simp only [stI] at h ⊢
  rw [stU_mono p q h]
theorem stS_mono (m : Int) (p q : List Int) (h : (stS m (p, false)).2.2 = false) : stS m (p ++ q, false) = ((stS m (p, false)).1, (stS m (p, false)).2.1 ++ q, false) := by
  have hb : (stU (p, false)).2.2 = false := by
    cases hx : (stU (p, false)).2.2
    · rfl
    · simp [stS, hx] at h
  have hu := stU_mono p q hb
  unfold stS at h ⊢
  rw [hu]
  split at h
  · cases h
  · rename_i hc
    rw [if_neg hc, if_neg (by simp only [List.length_append]; simp only [hb] at hc; simp at hc ⊢; omega)]
    simp only [not_or] at hc
    have hle : (stU (p, false)).1.toNat ≤ (stU (p, false)).2.1.length := by omega
    rw [List.take_append_of_le_length hle, List.drop_append_of_le_length hle]
/-- three reads -/
def run3 (s : St) : St := (stS 300 (stI (stU s).2).2).2
theorem run3_mono (p q : List Int) (h : (run3 (p, false)).2 = false) : run3 (p ++ q, false) = ((run3 (p, false)).1 ++ q, false) := by
  unfold run3 at h ⊢
  have h2 : (stI (stU (p, false)).2).2.2 = false := by
    cases hx : (stI (stU (p, false)).2).2.2
    · rfl
    · rw [stS_bad 300 _ hx] at h; cases h
  have h1 : (stU (p, false)).2.2 = false := by
    cases hx : (stU (p, false)).2.2
    · rfl
    · rw [stI_bad _ hx] at h2; cases h2
  rw [stU_mono p q h1]
  have e1 : (stU (p, false)).2 = ((stU (p, false)).2.1, false) := Prod.ext rfl h1
  generalize (stU (p, false)).2 = s1 at *
  obtain ⟨r1, b1⟩ := s1
  obtain rfl : b1 = false := h1
  have i2 := stI_mono r1 q h2
  dsimp only
  rw [i2]
  generalize (stI (r1, false)).2 = s2 at *
  obtain ⟨r2, b2⟩ := s2
  obtain rfl : b2 = false := h2
  have i3 := stS_mono 300 r2 q h
  dsimp only
  rw [i3]
theorem run3_enc (u v : Int) (s : List Int) (u0 : 0 ≤ u) (u1 : u ≤ 18446744073709551615) (v0 : -9223372036854775808 ≤ v) (v1 : v ≤ 9223372036854775807) (hs : s.length ≤ 300) :
    run3 (encU u ++ (encU (fold v) ++ encS s), false) = ([], false) := by
  unfold run3
  rw [stU_enc u _ u0 u1, stI_enc v _ v0 v1]
  have := stS_enc s [] 300 (by omega) (by omega)
  rw [List.append_nil] at this
  rw [this]
theorem run3_cut (u v : Int) (s : List Int) (k : Nat) (u0 : 0 ≤ u) (u1 : u ≤ 18446744073709551615) (v0 : -9223372036854775808 ≤ v) (v1 : v ≤ 9223372036854775807) (hs : s.length ≤ 300)
    (hk : k < (encU u ++ (encU (fold v) ++ encS s)).length) : (run3 ((encU u ++ (encU (fold v) ++ encS s)).take k, false)).2 = true := by
  have hall := run3_enc u v s u0 u1 v0 v1 hs
  generalize encU u ++ (encU (fold v) ++ encS s) = l at *
  cases hb : (run3 (l.take k, false)).2
  · have h := run3_mono (l.take k) (l.drop k) hb
    rw [List.take_append_drop, hall] at h
    have := congrArg (fun x : St => x.1.length) h
    simp at this
    omega
  · rfl
end Go.Proofs.YteaepgbakcifkaaDoor
