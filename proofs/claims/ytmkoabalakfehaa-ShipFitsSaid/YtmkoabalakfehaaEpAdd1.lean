/- Add as one contract; what may be said of tables with no log in sight. -/
import Derived.Test.YtmkoabalakfehaaEpOf
import Derived.Test.YtmkoabalakfehaaEpAt
import Derived.Test.YtmkoabalakfehaaEpBothM
set_option linter.unusedVariables false
set_option linter.unusedSimpArgs false
namespace Go.Proofs.Ytmkoabalakfehaa
open Go.RowKit
theorem ep_add (a : Option Addr) (n c : Nat) (L : List Int) (E s : Int) (w : World) (hS : Sl .u64 w a n c L) (hW : IsW L) (s0 : 0 ≤ s) (s1 : s ≤ 18446744073709551615) (hg : GoodT L E) (ho : ofI s = E) (he : L ≠ [] → epI (L.getD (L.length - 1) 0) ≤ epI s) (hb : n ≤ 1000) :
    Calls Try.prog 25 #[.agg #[.slice a n c, .int .i64 E], .int .u64 s] w fun e w' => ∃ a' n' c', e = .returned (.tuple #[.agg #[.slice a' n' c', .int .i64 (E + 1)], .bool true]) ∧ Sl .u64 w' a' n' c' (addL L s) ∧ (∀ y, a' = some y → w.heap.size ≤ y.block) ∧ Kept w w' := by
  have hl := hS.1
  cases n with
  | zero =>
    have hL : L = [] := List.eq_nil_of_length_eq_zero hl
    rw [show addL L s = L ++ [s] from if_pos (.inl hL)]
    exact ep_add_nil a c L E s w hS hW s0 s1 hg ho hb
  | succ t =>
    have hne : L ≠ [] := by intro h; rw [h] at hl; simp at hl
    have h1 := he hne
    rw [show L.length - 1 = t by omega] at h1
    by_cases hlt : epI (L.getD t 0) < epI s
    · rw [show addL L s = L ++ [s] from if_pos (.inr (by rw [show L.length - 1 = t by omega]; exact hlt))]
      exact ep_add_lt a c t L E s w hS hW s0 s1 hg ho hlt hb
    · rw [show addL L s = L from if_neg (by rintro (h | h); exact hne h; rw [show L.length - 1 = t by omega] at h; exact hlt h)]
      exact ep_add_eq a c t L E s w hS hW s0 s1 hg ho (by omega) hb
theorem getD_left {A B : List Int} {i : Nat} (h : i < A.length) : (A ++ B).getD i 0 = A.getD i 0 := by simp [List.getD_eq_getElem?_getD, List.getElem?_append_left h]
theorem getD_right {A B : List Int} {i : Nat} (h : A.length ≤ i) : (A ++ B).getD i 0 = B.getD (i - A.length) 0 := by simp [List.getD_eq_getElem?_getD, List.getElem?_append_right h]
theorem getD_mem {A : List Int} {i : Nat} (h : i < A.length) : A.getD i 0 ∈ A := by rw [List.getD_eq_getElem?_getD, List.getElem?_eq_getElem h]; exact List.getElem_mem h
theorem atF_congr {L L' : List Int} {off : Int} : ∀ m, (∀ j, j < m → L.getD j 0 = L'.getD j 0) → atF L off m = atF L' off m
  | 0, _ => rfl
  | m + 1, h => by rw [atF, atF, h m (by omega), atF_congr m (fun j hj => h j (by omega))]
theorem atF_app (T : List Int) (s off : Int) : atF (T ++ [s]) off (T.length + 1) = if ofI s ≤ off then epI s else atF T off T.length := by
  rw [atF, getD_right (Nat.le_refl _), Nat.sub_self, atF_congr T.length (fun j hj => getD_left hj)]
  rfl
/-- where a good table is cut -/
theorem cut_at {T : List Int} {E : Int} (hg : GoodT T E) (cut : Int) : ∀ m, m ≤ T.length → ∃ k, k ≤ m ∧ (∀ j, j < k → ofI (T.getD j 0) < cut) ∧ ∀ j, k ≤ j → j < m → cut ≤ ofI (T.getD j 0)
  | 0, _ => ⟨0, Nat.le_refl _, fun j h => by omega, fun j h1 h2 => by omega⟩
  | m + 1, hm => by
    obtain ⟨k, h1, h2, h3⟩ := cut_at hg cut m (by omega)
    by_cases hc : ofI (T.getD m 0) < cut
    · refine ⟨m + 1, Nat.le_refl _, fun j hj => ?_, fun j h4 h5 => by omega⟩
      rcases Nat.lt_or_ge j m with h | h
      · have := off_lt hg h (by omega); omega
      · obtain rfl : j = m := by omega
        exact hc
    · refine ⟨k, by omega, h2, fun j h4 h5 => ?_⟩
      rcases Nat.lt_or_ge j m with h | h
      · exact h3 j h4 h
      · obtain rfl : j = m := by omega
        omega
theorem getD_take {T : List Int} {k j : Nat} (h : j < k) : (T.take k).getD j 0 = T.getD j 0 := by simp [List.getD_eq_getElem?_getD, List.getElem?_take, h]
theorem good_take {T : List Int} {E cut : Int} (hg : GoodT T E) (k : Nat) (hk : k ≤ T.length) (h1 : ∀ j, j < k → ofI (T.getD j 0) < cut) (c0 : 0 ≤ cut) (c1 : cut ≤ 17592186044416) : GoodT (T.take k) cut := by
  refine ⟨fun i hi => ?_, c0, c1⟩
  have hik : i < k := by simp at hi; omega
  refine ⟨by rw [getD_take hik]; exact h1 i hik, fun hp => ?_⟩
  rw [getD_take hik, getD_take (by omega)]
  exact (hg.1 i (by omega)).2 hp
end Go.Proofs.Ytmkoabalakfehaa
