/- The plain mathematics of numbers in bytes: seven bits a byte, the lowest first. No program is in sight. -/
import Derived.PlainAid
set_option linter.unusedVariables false
set_option linter.unusedSimpArgs false
namespace Go.Proofs.YteaepgbakcifkaaDoor
def encF : Nat → Int → List Int
  | 0, v => [v]
  | f + 1, v => if v < 128 then [v] else (v % 128 + 128) :: encF f (v / 128)
def encU (v : Int) : List Int := encF 9 v
theorem encF_stable : ∀ (f : Nat) (v : Int), v < 128 ^ (f + 1) → encF (f + 1) v = encF f v
  | 0, v, h => by simp only [encF]; rw [if_pos (by omega)]
  | f + 1, v, h => by
    rw [encF]
    conv => rhs; rw [encF]
    split
    · rfl
    · rw [encF_stable f (v / 128) (by rw [Int.pow_succ] at h; generalize (128 : Int) ^ (f + 1) = p at *; omega)]
theorem encU_lt (v : Int) (h : v < 128) : encU v = [v] := by unfold encU; rw [encF, if_pos h]
theorem encU_ge (v : Int) (h : 128 ≤ v) (h2 : v ≤ 18446744073709551615) : encU v = (v % 128 + 128) :: encU (v / 128) := by
  unfold encU
  rw [encF, if_neg (by omega), ← encF_stable 8 (v / 128) (by simp only [Nat.reduceAdd, Int.reducePow]; omega)]
def lenU (v : Int) : Nat := (encU v).length
theorem lenU_lt (v : Int) (h : v < 128) : lenU v = 1 := by unfold lenU; rw [encU_lt v h]; rfl
theorem lenU_ge (v : Int) (h : 128 ≤ v) (h2 : v ≤ 18446744073709551615) : lenU v = lenU (v / 128) + 1 := by unfold lenU; rw [encU_ge v h h2]; rfl
theorem encF_len (f : Nat) : ∀ v, 1 ≤ (encF f v).length ∧ (encF f v).length ≤ f + 1 := by
  induction f with
  | zero => intro v; simp [encF]
  | succ f ih => intro v; rw [encF]; split <;> simp; exact (ih _).2
theorem lenU_le (v : Int) : 1 ≤ lenU v ∧ lenU v ≤ 10 := encF_len 9 v
theorem encF_mono (f : Nat) : ∀ a b, a ≤ b → (encF f a).length ≤ (encF f b).length := by
  induction f with
  | zero => intro a b _; simp [encF]
  | succ f ih =>
    intro a b h
    rw [encF, encF]
    split
    · have := (encF_len f (b / 128)).1; split <;> simp
    · rw [if_neg (by omega)]; simp; exact ih _ _ (by omega)
theorem lenU_mono (a b : Int) (h : a ≤ b) : lenU a ≤ lenU b := encF_mono 9 a b h
theorem encF_byte (f : Nat) : ∀ v, 0 ≤ v → v < 128 ^ (f + 1) → ∀ x ∈ encF f v, 0 ≤ x ∧ x ≤ 255 := by
  induction f with
  | zero => intro v h0 h1 x hx; simp [encF] at hx h1; omega
  | succ f ih =>
    intro v h0 h1 x hx
    rw [encF] at hx
    split at hx
    · simp at hx; omega
    · rcases List.mem_cons.1 hx with rfl | hx
      · omega
      · exact ih (v / 128) (by omega) (by rw [Int.pow_succ] at h1; generalize (128 : Int) ^ (f + 1) = p at *; omega) x hx
theorem encU_byte (v : Int) (h0 : 0 ≤ v) (h1 : v ≤ 18446744073709551615) : ∀ x ∈ encU v, 0 ≤ x ∧ x ≤ 255 := encF_byte 9 v h0 (by simp only [Nat.reduceAdd, Int.reducePow]; omega)
theorem encF_inj (f : Nat) : ∀ a b, 0 ≤ a → 0 ≤ b → encF f a = encF f b → a = b := by
  induction f with
  | zero => intro a b _ _ h; simpa [encF] using h
  | succ f ih =>
    intro a b h0 h1 h
    rw [encF, encF] at h
    split at h <;> split at h
    · simpa using h
    · simp only [List.cons.injEq] at h; omega
    · simp only [List.cons.injEq] at h; omega
    · simp only [List.cons.injEq] at h
      have := ih (a / 128) (b / 128) (by omega) (by omega) h.2
      omega
theorem encU_inj (a b : Int) (h0 : 0 ≤ a) (h1 : 0 ≤ b) : encU a = encU b ↔ a = b := ⟨encF_inj 9 a b h0 h1, fun h => by rw [h]⟩
/-- reading: f bytes may still come, k have come, they made v -/
def rdF : Nat → Nat → Int → List Int → Option (Int × List Int)
  | 0, _, _, _ => none
  | _ + 1, _, _, [] => none
  | f + 1, k, v, b :: l => if 128 ≤ b then rdF f (k + 1) (v + (b % 128) * 2 ^ (7 * k)) l else if (b = 0 ∧ 0 < k) ∨ (k = 9 ∧ 1 < b) then none else some (v + (b % 128) * 2 ^ (7 * k), l)
def rdU (l : List Int) : Option (Int × List Int) := rdF 10 0 0 l
theorem rdF_step (f k : Nat) (v : Int) (l : List Int) (j : Nat) (hj : j < l.length) : rdF (f + 1) k v (l.drop j) =
    if 128 ≤ l.getD j 0 then rdF f (k + 1) (v + (l.getD j 0 % 128) * 2 ^ (7 * k)) (l.drop (j + 1)) else if (l.getD j 0 = 0 ∧ 0 < k) ∨ (k = 9 ∧ 1 < l.getD j 0) then none else some (v + (l.getD j 0 % 128) * 2 ^ (7 * k), l.drop (j + 1)) := by
  rw [List.drop_eq_getElem_cons hj, rdF]
  simp [List.getD_eq_getElem?_getD, hj]
theorem rdF_end (f k : Nat) (v : Int) (l : List Int) (j : Nat) (hj : l.length ≤ j) : rdF f k v (l.drop j) = none := by
  rw [List.drop_eq_nil_of_le hj]; cases f <;> rfl
/-- number, rest, bad -/
def rdV (l : List Int) : Int × List Int × Bool := match rdU l with
  | some (v, r) => (v, r, false)
  | none => (0, [], true)
end Go.Proofs.YteaepgbakcifkaaDoor
