/- Stamps' texts, plainly: digits. -/
import Derived.Lib.AtoiTie
import Derived.Lib.ParseIntBTie
import Derived.Lib.CutLaws
import Derived.Lib.ItoaLen
set_option linter.unusedVariables false
set_option linter.unusedSimpArgs false
namespace Go.Proofs.YteaepgbakcifkaaDoor
open Go Go.Lib
theorem digitVal_dg (d : Nat) (h : d < 10) : digitVal (UInt8.ofNat (48 + d)) = some d := by
  have : ∀ d : Fin 10, digitVal (UInt8.ofNat (48 + d.val)) = some d.val := by decide
  exact this ⟨d, h⟩
theorem digitVal_inv (b : UInt8) (d : Nat) (h : digitVal b = some d) : d < 10 ∧ b = UInt8.ofNat (48 + d) := by
  have h1 : ∀ n : Fin 256, ∀ d, digitVal (UInt8.ofNat n.val) = some d → d < 10 ∧ UInt8.ofNat n.val = UInt8.ofNat (48 + d) := by
    intro n d hd
    have : ∀ n : Fin 256, (match digitVal (UInt8.ofNat n.val) with | some d => decide (d < 10 ∧ UInt8.ofNat n.val = UInt8.ofNat (48 + d)) | none => true) = true := by decide +kernel
    have := this n
    rw [hd] at this
    exact of_decide_eq_true this
  have hb : UInt8.ofNat b.toNat = b := by simp
  have := h1 ⟨b.toNat, b.toNat_lt⟩ d (by simpa using h)
  simpa using this
theorem decFrom_snoc (l : List UInt8) (b : UInt8) : ∀ acc, decFrom acc (l ++ [b]) = (decFrom acc l).bind fun m => (digitVal b).map fun d => m * 10 + d := by
  induction l with
  | nil =>
    intro acc
    simp only [List.nil_append, decFrom]
    cases digitVal b <;> rfl
  | cons c l ih =>
    intro acc
    simp only [List.cons_append, decFrom]
    cases digitVal c with
    | none => rfl
    | some d => exact ih _
theorem decFrom_dec (n : Nat) : decFrom 0 (decDigits n) = some n := by
  induction n using Nat.strongRecOn with
  | ind n ih =>
    rw [decDigits]
    by_cases h : n < 10
    · rw [dif_pos h]
      simp only [decFrom]
      rw [digitVal_dg n h]
      simp [decFrom]
    · rw [dif_neg h, decFrom_snoc, ih (n / 10) (by omega), digitVal_dg (n % 10) (by omega)]
      simp
      omega
theorem dec_ne (n : Nat) : decDigits n ≠ [] := by
  rw [decDigits]
  split <;> simp
theorem dec_head (n : Nat) (h : 10 ≤ n) : (decDigits n).head? ≠ some 48 := by
  induction n using Nat.strongRecOn with
  | ind n ih =>
    rw [decDigits, dif_neg (by omega), List.head?_append]
    by_cases h2 : n / 10 < 10
    · rw [decDigits, dif_pos h2]
      have : ∀ d : Fin 10, 1 ≤ d.val → UInt8.ofNat (48 + d.val) ≠ 48 := by decide
      have := this ⟨n / 10, h2⟩ (by show 1 ≤ n / 10; omega)
      simpa using this
    · have := ih (n / 10) (by omega) (by omega)
      cases hh : (decDigits (n / 10)).head? with
      | none => exact absurd (List.head?_eq_none_iff.1 hh) (dec_ne _)
      | some x => rw [hh] at this; simpa using this
theorem dec_of (l : List UInt8) : ∀ n, l ≠ [] → decFrom 0 l = some n → (1 < l.length → l.head? ≠ some 48) → l = decDigits n := by
  induction h : l.length generalizing l with
  | zero => intro n hne; exact absurd (List.length_eq_zero_iff.1 h) hne
  | succ k ih =>
    intro n hne hd hz
    obtain ⟨l', b, rfl⟩ : ∃ l' b, l = l' ++ [b] := ⟨l.dropLast, l.getLast hne, (List.dropLast_concat_getLast hne).symm⟩
    rw [decFrom_snoc] at hd
    cases hm : decFrom 0 l' with
    | none => rw [hm] at hd; cases hd
    | some m =>
      rw [hm] at hd
      cases hb : digitVal b with
      | none => rw [hb] at hd; cases hd
      | some d =>
        rw [hb] at hd
        obtain rfl : m * 10 + d = n := by simpa using hd
        obtain ⟨hd10, rfl⟩ := digitVal_inv b d hb
        by_cases hl : l' = []
        · subst hl
          obtain rfl : 0 = m := by simpa [decFrom] using hm
          rw [decDigits, dif_pos (by omega)]
          simp
        · have hlen : l'.length = k := by simpa using h
          have hlpos := List.length_pos_iff.2 hl
          have hhead : l'.head? ≠ some 48 := by
            have := hz (by simp; omega)
            rw [List.head?_append] at this
            cases hh : l'.head? with
            | none => exact absurd (List.head?_eq_none_iff.1 hh) hl
            | some x => rw [hh] at this; simpa using this
          have hl' := ih l' hlen m hl hm fun _ => hhead
          have hm1 : 1 ≤ m := by
            rcases Nat.eq_zero_or_pos m with h0 | h0
            · subst h0
              rw [hl'] at hhead
              exact absurd (by rw [decDigits]; rfl) hhead
            · exact h0
          conv => rhs; rw [decDigits]
          rw [dif_neg (by omega), show (m * 10 + d) / 10 = m by omega, show (m * 10 + d) % 10 = d by omega, ← hl']
/-- a number of the document's -/
def numB (l : List UInt8) : Option Nat := if l = [] ∨ 15 < l.length ∨ (1 < l.length ∧ l.head? = some 48) then none else decFrom 0 l
theorem numB_iff (l : List UInt8) (n : Nat) : numB l = some n ↔ l = decDigits n ∧ l.length ≤ 15 := by
  unfold numB
  constructor
  · intro h
    split at h
    · cases h
    · rename_i hc
      have h1 : l ≠ [] := fun e => hc (.inl e)
      have h2 : l.length ≤ 15 := by apply Classical.byContradiction; intro e; exact hc (.inr (.inl (by omega)))
      exact ⟨dec_of l n h1 h fun e e2 => hc (.inr (.inr ⟨e, e2⟩)), h2⟩
  · rintro ⟨rfl, h⟩
    rw [if_neg]
    · exact decFrom_dec n
    · rintro (h1 | h1 | ⟨h1, h2⟩)
      · exact dec_ne n h1
      · omega
      · by_cases hn : n < 10
        · rw [decDigits, dif_pos hn] at h1
          simp at h1
        · exact dec_head n (by omega) h2
theorem dec_mem (n : Nat) : ∀ b ∈ decDigits n, b ≠ 46 ∧ b ≠ 45 ∧ b ≠ 43 := by
  induction n using Nat.strongRecOn with
  | ind n ih =>
    have hd : ∀ d : Fin 10, UInt8.ofNat (48 + d.val) ≠ 46 ∧ UInt8.ofNat (48 + d.val) ≠ 45 ∧ UInt8.ofNat (48 + d.val) ≠ 43 := by decide
    rw [decDigits]
    by_cases h : n < 10
    · rw [dif_pos h]
      intro b hb
      obtain rfl := List.mem_singleton.1 hb
      exact hd ⟨n, h⟩
    · rw [dif_neg h]
      intro b hb
      rcases List.mem_append.1 hb with hb | hb
      · exact ih (n / 10) (by omega) b hb
      · obtain rfl := List.mem_singleton.1 hb
        exact hd ⟨n % 10, by omega⟩
theorem dec_len (n k : Nat) (hk : 1 ≤ k) (h : n < 10 ^ k) : (decDigits n).length ≤ k := by
  induction k generalizing n with
  | zero => omega
  | succ k ih =>
    rw [decDigits]
    by_cases h1 : n < 10
    · rw [dif_pos h1]; simp
    · rw [dif_neg h1, List.length_append]
      have hk1 : 1 ≤ k := by
        rcases Nat.eq_zero_or_pos k with h0 | h0
        · subst h0; simp at h; omega
        · exact h0
      have := ih (n / 10) hk1 (by rw [Nat.pow_succ] at h; omega)
      simp
      omega
/-- what strconv reads of digits -/
theorem atoi_dec (n : Nat) (h : n < 10 ^ 18) : parseIntB 64 (decDigits n) = .ok (n : Int) := by
  rw [parseIntB_64, atoiAll_short _ (dec_len n 18 (by omega) h)]
  have : atoi (decDigits n) = some (n : Int) := by
    cases hd : decDigits n with
    | nil => exact absurd hd (dec_ne n)
    | cons b r =>
      have hb := dec_mem n b (by rw [hd]; exact List.mem_cons_self ..)
      show (if (b == 45) = true then Option.map (fun (m : Nat) => -(m : Int)) (decNat r) else if (b == 43) = true then Option.map (fun (m : Nat) => (m : Int)) (decNat r) else Option.map (fun (m : Nat) => (m : Int)) (decNat (b :: r))) = some (n : Int)
      rw [if_neg (by simpa using hb.2.1), if_neg (by simpa using hb.2.2)]
      unfold decNat
      rw [← hd, if_neg (by simpa using dec_ne n), decFrom_dec]
      rfl
  rw [this]; rfl
end Go.Proofs.YteaepgbakcifkaaDoor
