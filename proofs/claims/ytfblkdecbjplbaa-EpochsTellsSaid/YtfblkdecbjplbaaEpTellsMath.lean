/- What At and Cut tell of the table of a log (no program in sight). -/
import Derived.Test.YtfblkdecbjplbaaEpBothMath
import Derived.Test.YtfblkdecbjplbaaEpAt
set_option linter.unusedVariables false
set_option linter.unusedSimpArgs false
namespace Go.Proofs.Ytfblkdecbjplbaa
open Go.RowKit
theorem atF_congr {L L' : List Int} {off : Int} : ∀ m, (∀ j, j < m → L.getD j 0 = L'.getD j 0) → atF L off m = atF L' off m
  | 0, _ => rfl
  | m + 1, h => by rw [atF, atF, h m (by omega), atF_congr m (fun j hj => h j (by omega))]
theorem atF_app (T : List Int) (s off : Int) : atF (T ++ [s]) off (T.length + 1) = if ofI s ≤ off then epI s else atF T off T.length := by
  rw [atF, getD_right (Nat.le_refl _), Nat.sub_self, atF_congr T.length (fun j hj => getD_left hj)]
  rfl
theorem tab_head (l : List Int) : ∀ k, 0 < k → tabL l k ≠ [] ∧ (tabL l k).getD 0 0 = l.getD 0 0
  | 0, h => by omega
  | 1, _ => by
    show addL [] (l.getD 0 0) ≠ [] ∧ _
    exact ⟨by unfold addL; simp, by show (addL [] (l.getD 0 0)).getD 0 0 = _; unfold addL; simp⟩
  | k + 2, _ => by
    obtain ⟨h1, h2⟩ := tab_head l (k + 1) (by omega)
    show addL (tabL l (k + 1)) (l.getD (k + 1) 0) ≠ [] ∧ (addL (tabL l (k + 1)) (l.getD (k + 1) 0)).getD 0 0 = _
    unfold addL
    split
    · exact ⟨by simp, by rw [getD_left (List.length_pos_iff.2 h1)]; exact h2⟩
    · exact ⟨h1, h2⟩
theorem tells_at {l : List Int} {e : Int} (hr : Runs l e) (he : e ≤ 1000) (hn : l.length ≤ 1000) : ∀ m, m ≤ l.length → ∀ i, i < m → atF (tabL l m) (i : Int) (tabL l m).length = epI (l.getD i 0)
  | 0, _, i, hi => by omega
  | m + 1, hm, i, hi => by
    have ih := tells_at hr he hn m (by omega)
    have hom : ofI (l.getD m 0) = m := (hr.1 m (by omega)).1
    show atF (addL (tabL l m) (l.getD m 0)) (i : Int) (addL (tabL l m) (l.getD m 0)).length = _
    unfold addL
    by_cases hc : tabL l m = [] ∨ epI ((tabL l m).getD ((tabL l m).length - 1) 0) < epI (l.getD m 0)
    · rw [if_pos hc, show (tabL l m ++ [l.getD m 0]).length = (tabL l m).length + 1 by simp, atF_app, hom]
      by_cases him : i < m
      · rw [if_neg (by omega)]; exact ih i him
      · obtain rfl : i = m := by omega
        rw [if_pos (Int.le_refl _)]
    · rw [if_neg hc]
      by_cases him : i < m
      · exact ih i him
      · obtain rfl : i = m := by omega
        have hne : tabL l i ≠ [] := fun h => hc (.inl h)
        have h0 : 0 < i := by
          rcases Nat.eq_zero_or_pos i with h | h
          · subst h; exact absurd rfl hne
          · exact h
        obtain ⟨t, ht⟩ := Nat.exists_eq_succ_of_ne_zero (show i ≠ 0 by omega)
        have hlast := (tabL_last (runs_rises hr) t (by omega)).2
        rw [show t + 1 = i by omega] at hlast
        have hg := tab_good (runs_rises hr) (runs_isW hr he) (by omega) (by rw [(hr.1 0 (by omega)).1]; omega) i (by omega)
        rw [(hr.1 0 (by omega)).1] at hg
        have hlen : 0 < (tabL l i).length := List.length_pos_iff.2 hne
        obtain ⟨u, hu⟩ := Nat.exists_eq_succ_of_ne_zero (show (tabL l i).length ≠ 0 by omega)
        have hb := (hg.1 u (by omega)).1
        rw [hu, atF, if_pos (by omega)]
        rw [show (tabL l i).length - 1 = u by omega] at hlast hc
        rw [hlast]
        have h1 : ¬ epI ((tabL l i).getD u 0) < epI (l.getD i 0) := fun h => hc (.inr h)
        rw [hlast] at h1
        have h2 := hr.2 t (by omega)
        rw [show t + 1 = i by omega] at h2
        omega
theorem first_tab {l : List Int} {e : Int} (hr : Runs l e) : firstI (tabL l l.length) (endOf l) = 0 := by
  by_cases h0 : 0 < l.length
  · obtain ⟨h1, h2⟩ := tab_head l l.length h0
    unfold firstI
    rw [if_neg h1, h2, (hr.1 0 h0).1]; rfl
  · have : l = [] := List.eq_nil_of_length_eq_zero (by omega)
    subst this; decide
theorem tell_full {l : List Int} {e : Int} (hr : Runs l e) (he : e ≤ 1000) (hn : l.length ≤ 1000) (i : Nat) (hi : i < l.length) : atI (tabL l l.length) (endOf l) i = (epI (l.getD i 0), true) := by
  unfold atI
  rw [if_pos ⟨full_good hr he hn, by rw [first_tab hr]; omega, by rw [runs_end hr]; omega⟩, tells_at hr he hn l.length (Nat.le_refl _) i hi]
/-- where a good table is cut -/
theorem cut_at {T : List Int} {E : Int} (hg : GoodT T E) (cut : Int) : ∀ m, m ≤ T.length → ∃ k, k ≤ m ∧ (∀ j, j < k → ofI (T.getD j 0) < cut) ∧ ∀ j, k ≤ j → j < m → cut ≤ ofI (T.getD j 0)
  | 0, _ => ⟨0, Nat.le_refl _, fun j h => by omega, fun j h1 h2 => by omega⟩
  | m + 1, hm => by
    obtain ⟨k, h1, h2, h3⟩ := cut_at hg cut m (by omega)
    by_cases hc : ofI (T.getD m 0) < cut
    · refine ⟨m + 1, Nat.le_refl _, fun j hj => ?_, fun j h4 h5 => by omega⟩
      rcases Nat.lt_or_ge j m with h | h
      · have := off_lt hg h (by omega); omega
      · obtain rfl : j = m := by omega
        exact hc
    · refine ⟨k, by omega, h2, fun j h4 h5 => ?_⟩
      rcases Nat.lt_or_ge j m with h | h
      · exact h3 j h4 h
      · obtain rfl : j = m := by omega
        omega
theorem getD_take {T : List Int} {k j : Nat} (h : j < k) : (T.take k).getD j 0 = T.getD j 0 := by simp [List.getD_eq_getElem?_getD, List.getElem?_take, h]
theorem good_take {T : List Int} {E cut : Int} (hg : GoodT T E) (k : Nat) (hk : k ≤ T.length) (h1 : ∀ j, j < k → ofI (T.getD j 0) < cut) (c0 : 0 ≤ cut) (c1 : cut ≤ 17592186044416) : GoodT (T.take k) cut := by
  refine ⟨fun i hi => ?_, c0, c1⟩
  have hik : i < k := by simp at hi; omega
  refine ⟨by rw [getD_take hik]; exact h1 i hik, fun hp => ?_⟩
  rw [getD_take hik, getD_take (by omega)]
  exact (hg.1 i (by omega)).2 hp
theorem tell_cut {l : List Int} {e : Int} (hr : Runs l e) (he : e ≤ 1000) (hn : l.length ≤ 1000) (cut : Int) (c0 : 0 ≤ cut) (c1 : cut ≤ l.length) (k : Nat) (hk : k ≤ (tabL l l.length).length) (h1 : ∀ j, j < k → ofI ((tabL l l.length).getD j 0) < cut) (h2 : ∀ j, k ≤ j → j < (tabL l l.length).length → cut ≤ ofI ((tabL l l.length).getD j 0)) (i : Nat) (hi : i < l.length) :
    ((i : Int) < cut → atI ((tabL l l.length).take k) cut i = (epI (l.getD i 0), true)) ∧ (¬ (i : Int) < cut → (atI ((tabL l l.length).take k) cut i).2 = false) := by
  have hg := full_good hr he hn
  constructor
  · intro hc
    have hgt := good_take hg k hk h1 c0 (by omega)
    obtain ⟨n1, n2⟩ := tab_head l l.length (by omega)
    have hk0 : 0 < k := by
      rcases Nat.eq_zero_or_pos k with h | h
      · have := h2 0 (by omega) (List.length_pos_iff.2 n1)
        rw [n2, (hr.1 0 (by omega)).1] at this
        simp at this; omega
      · exact h
    have hfirst : firstI ((tabL l l.length).take k) cut = 0 := by
      unfold firstI
      rw [if_neg (by intro h; have := congrArg List.length h; simp at this; rcases this with h' | h'; omega; exact n1 h'), getD_take hk0, n2, (hr.1 0 (by omega)).1]
      rfl
    have hlen : ((tabL l l.length).take k).length = k := by simp; omega
    have hdown : ∀ d, k + d ≤ (tabL l l.length).length → atF (tabL l l.length) (i : Int) (k + d) = atF (tabL l l.length) (i : Int) k := by
      intro d
      induction d with
      | zero => intro _; rfl
      | succ d ih =>
        intro hd
        rw [← Nat.add_assoc, atF, if_neg (by have := h2 (k + d) (by omega) (by omega); omega)]
        exact ih (by omega)
    unfold atI
    rw [if_pos ⟨hgt, by rw [hfirst]; omega, hc⟩, hlen, atF_congr k (fun j hj => getD_take hj)]
    have := hdown ((tabL l l.length).length - k) (by omega)
    rw [show k + ((tabL l l.length).length - k) = (tabL l l.length).length by omega] at this
    rw [← this, tells_at hr he hn l.length (Nat.le_refl _) i hi]
  · intro hc
    unfold atI
    rw [if_neg (fun h => hc h.2.2)]
end Go.Proofs.Ytfblkdecbjplbaa
