/- What Meet tells, whichever is told first (no program in sight). -/
import Derived.Test.YtmkoabalakfehaaEpMeet
set_option linter.unusedVariables false
set_option linter.unusedSimpArgs false
namespace Go.Proofs.Ytmkoabalakfehaa
open Go.RowKit
theorem idxF_none {L : List Int} {s : Int} : ∀ f j, (∀ k, j ≤ k → k < j + f → L.getD k 0 ≠ s) → idxF L s f j = none
  | 0, _, _ => rfl
  | f + 1, j, h => by
    unfold idxF
    rw [if_neg (h j (Nat.le_refl _) (by omega))]
    exact idxF_none f (j + 1) fun k h1 h2 => h k (by omega) (by omega)
theorem idx_none {L : List Int} {s : Int} (h : ∀ k, k < L.length → L.getD k 0 ≠ s) : idx L s = none := idxF_none _ _ fun k _ h2 => h k (by omega)
theorem idxF_some {L : List Int} {s : Int} (t : Nat) (ht : L.getD t 0 = s) : ∀ f j, j ≤ t → t < j + f → (∀ k, j ≤ k → k < t → L.getD k 0 ≠ s) → idxF L s f j = some t
  | 0, j, h1, h2, _ => by omega
  | f + 1, j, h1, h2, h => by
    unfold idxF
    by_cases e : j = t
    · subst e; rw [if_pos ht]
    · rw [if_neg (h j (Nat.le_refl _) (by omega))]
      exact idxF_some t ht f (j + 1) (by omega) (by omega) fun k h3 h4 => h k (by omega) h4
theorem good_off {L : List Int} {E : Int} (hg : GoodT L E) : ∀ d i, i + d + 1 < L.length → ofI (L.getD i 0) < ofI (L.getD (i + d + 1) 0)
  | 0, i, h => by have := ((hg.1 (i + 1) h).2 (by omega)).2; simpa using this
  | d + 1, i, h => by
    have h1 := good_off hg d i (by omega)
    have h2 := ((hg.1 (i + d + 1 + 1) (by omega)).2 (by omega)).2
    rw [Nat.add_sub_cancel] at h2
    have e : i + (d + 1) + 1 = i + d + 1 + 1 := by omega
    rw [e]; omega
theorem idx_self {L : List Int} {E : Int} (hg : GoodT L E) (t : Nat) (ht : t < L.length) : idx L (L.getD t 0) = some t := by
  refine idxF_some t rfl _ _ (Nat.zero_le _) (by omega) fun k _ hk e => ?_
  have := good_off hg (t - k - 1) k (by omega)
  rw [show k + (t - k - 1) + 1 = t by omega, e] at this
  omega
theorem idxF_not {L : List Int} {s : Int} : ∀ f j, idxF L s f j = none → ∀ k, j ≤ k → k < j + f → L.getD k 0 ≠ s
  | 0, j, _, k, h1, h2 => by omega
  | f + 1, j, h, k, h1, h2 => by
    unfold idxF at h
    split at h
    · cases h
    · rename_i hn
      rcases Nat.lt_or_ge j k with h3 | h3
      · exact idxF_not f (j + 1) h k h3 (by omega)
      · obtain rfl : k = j := by omega
        exact hn
theorem idx_not {L : List Int} {s : Int} (h : idx L s = none) : ∀ k, k < L.length → L.getD k 0 ≠ s := fun k hk => idxF_not _ _ h k (Nat.zero_le _) (by omega)
theorem meetGo_some {A B : List Int} {EA EB : Int} : ∀ n v, meetGo A B EA EB n = some v → ∃ i k, i < n ∧ idx B (A.getD i 0) = some k ∧ v = min (endsI A EA i) (endsI B EB k) ∧ ∀ j, i < j → j < n → idx B (A.getD j 0) = none
  | 0, v, h => by cases h
  | n + 1, v, h => by
    rw [meetGo] at h
    cases hk : idx B (A.getD n 0) with
    | some k => rw [hk] at h; injection h with h; exact ⟨n, k, by omega, hk, h.symm, fun j h1 h2 => by omega⟩
    | none =>
      rw [hk] at h
      obtain ⟨i, k, h1, h2, h3, h4⟩ := meetGo_some n v h
      refine ⟨i, k, by omega, h2, h3, fun j h5 h6 => ?_⟩
      rcases Nat.lt_or_ge j n with h7 | h7
      · exact h4 j h5 h7
      · obtain rfl : j = n := by omega
        exact hk
theorem meetGo_none {A B : List Int} {EA EB : Int} : ∀ n, meetGo A B EA EB n = none → ∀ i, i < n → idx B (A.getD i 0) = none
  | 0, _, i, hi => by omega
  | n + 1, h, i, hi => by
    rw [meetGo] at h
    cases hk : idx B (A.getD n 0) with
    | some k => rw [hk] at h; cases h
    | none =>
      rw [hk] at h
      rcases Nat.lt_or_ge i n with h7 | h7
      · exact meetGo_none n h i h7
      · obtain rfl : i = n := by omega
        exact hk
theorem off_lt {L : List Int} {E : Int} (hg : GoodT L E) {i j : Nat} (h : i < j) (hj : j < L.length) : ofI (L.getD i 0) < ofI (L.getD j 0) := by
  have := good_off hg (j - i - 1) i (by omega)
  rwa [show i + (j - i - 1) + 1 = j by omega] at this
theorem meetI_good {A B : List Int} {EA EB : Int} (gA : GoodT A EA) (gB : GoodT B EB) : meetI A EA B EB = match meetGo A B EA EB A.length with
    | some v => v
    | none => if firstI A EA = firstI B EB then firstI A EA else 0 := if_neg (by rintro (h | h); exact h gA; exact h gB)
theorem meet_sym {A B : List Int} {EA EB : Int} (gA : GoodT A EA) (gB : GoodT B EB) : meetI A EA B EB = meetI B EB A EA := by
  rw [meetI_good gA gB, meetI_good gB gA]
  cases h1 : meetGo A B EA EB A.length with
  | none =>
    cases h2 : meetGo B A EB EA B.length with
    | none =>
      show (if firstI A EA = firstI B EB then firstI A EA else 0) = (if firstI B EB = firstI A EA then firstI B EB else 0)
      by_cases hf : firstI A EA = firstI B EB
      · rw [if_pos hf, if_pos hf.symm, hf]
      · rw [if_neg hf, if_neg (fun h => hf h.symm)]
    | some v =>
      obtain ⟨k, i, hk, hi, _, _⟩ := meetGo_some _ _ h2
      obtain ⟨hiA, e⟩ := idx_lt hi
      exact absurd e.symm (idx_not (meetGo_none _ h1 i hiA) k hk)
  | some v =>
    obtain ⟨i, k, hi, hik, hv, hmax⟩ := meetGo_some _ _ h1
    obtain ⟨hkB, ekA⟩ := idx_lt hik
    cases h2 : meetGo B A EB EA B.length with
    | none => exact absurd ekA.symm (idx_not (meetGo_none _ h2 k hkB) i hi)
    | some u =>
      obtain ⟨k', i', hk', hki, hu, hmax'⟩ := meetGo_some _ _ h2
      obtain ⟨hiA, eiB⟩ := idx_lt hki
      have le1 : i' ≤ i := by
        rcases Nat.lt_or_ge i i' with h | h
        · exact absurd eiB.symm (idx_not (hmax i' h hiA) k' hk')
        · exact h
      have le2 : k ≤ k' := by
        rcases Nat.lt_or_ge k' k with h | h
        · exact absurd ekA.symm (idx_not (hmax' k h hkB) i hi)
        · exact h
      have ei : i' = i := by
        rcases Nat.lt_or_ge i' i with h | h
        · have o1 := off_lt gA h hi
          rcases Nat.lt_or_ge k k' with h' | h'
          · have o2 := off_lt gB h' hk'
            rw [ekA, ← eiB] at o2
            omega
          · obtain rfl : k' = k := by omega
            rw [eiB, ekA] at o1
            omega
        · omega
      subst ei
      have ek : k = k' := by
        rcases Nat.lt_or_ge k k' with h' | h'
        · have o2 := off_lt gB h' hk'
          rw [ekA, ← eiB] at o2
          omega
        · omega
      subst ek
      show v = u
      rw [hv, hu]
      omega
theorem ends_bd {A : List Int} {E : Int} (g : GoodT A E) (i : Nat) : 0 ≤ endsI A E i ∧ endsI A E i ≤ E := by
  unfold endsI
  split
  · rename_i h
    have := (g.1 (i + 1) h).1
    have h0 : 0 ≤ ofI (A.getD (i + 1) 0) := by unfold ofI; omega
    omega
  · exact ⟨g.2.1, Int.le_refl _⟩
theorem first_bd {A : List Int} {E : Int} (g : GoodT A E) : 0 ≤ firstI A E ∧ firstI A E ≤ E := by
  unfold firstI
  split
  · exact ⟨g.2.1, Int.le_refl _⟩
  · rename_i h
    have := (g.1 0 (List.length_pos_iff.2 h)).1
    have h0 : 0 ≤ ofI (A.getD 0 0) := by unfold ofI; omega
    omega
theorem meet_bd {A B : List Int} {EA EB : Int} (gA : GoodT A EA) (gB : GoodT B EB) : 0 ≤ meetI A EA B EB ∧ meetI A EA B EB ≤ EA ∧ meetI A EA B EB ≤ EB := by
  rw [meetI_good gA gB]
  cases h1 : meetGo A B EA EB A.length with
  | none =>
    show 0 ≤ (if firstI A EA = firstI B EB then firstI A EA else 0) ∧ (if firstI A EA = firstI B EB then firstI A EA else 0) ≤ EA ∧ (if firstI A EA = firstI B EB then firstI A EA else 0) ≤ EB
    have f1 := first_bd gA
    have f2 := first_bd gB
    have := gA.2.1
    have := gB.2.1
    split <;> omega
  | some v =>
    obtain ⟨i, k, hi, hik, hv, hmax⟩ := meetGo_some _ _ h1
    have e1 := ends_bd gA i
    have e2 := ends_bd gB k
    show 0 ≤ v ∧ v ≤ EA ∧ v ≤ EB
    omega
theorem meet_self {A : List Int} {E : Int} (g : GoodT A E) : meetI A E A E = E := by
  rw [meetI_good g g]
  cases hA : A.length with
  | zero =>
    have : A = [] := List.eq_nil_of_length_eq_zero hA
    subst this
    rw [meetGo]
    show (if firstI [] E = firstI [] E then firstI [] E else 0) = E
    rw [if_pos rfl]
    rfl
  | succ t =>
    rw [meetGo, idx_self g t (by omega)]
    show min (endsI A E t) (endsI A E t) = E
    have : endsI A E t = E := if_neg (by omega)
    omega
end Go.Proofs.Ytmkoabalakfehaa
