/- Of: the table of records whose stamps rise. -/
import Derived.Test.YtmkoabalakfehaaEpAdd
set_option linter.unusedVariables false
set_option linter.unusedSimpArgs false
namespace Go.Proofs.Ytmkoabalakfehaa
open Go.RowKit
/-- records that may stand one behind the other from a place on -/
def Rises (l : List Int) : Prop := ∀ i, i + 1 < l.length → ofI (l.getD (i + 1) 0) = ofI (l.getD i 0) + 1 ∧ epI (l.getD i 0) ≤ epI (l.getD (i + 1) 0)
/-- the table of the first k -/
def tabL : List Int → Nat → List Int
  | l, 0 => []
  | l, k + 1 => addL (tabL l k) (l.getD k 0)
theorem addL_last (L : List Int) (s : Int) (h : L ≠ [] → epI (L.getD (L.length - 1) 0) ≤ epI s) : addL L s ≠ [] ∧ epI ((addL L s).getD ((addL L s).length - 1) 0) = epI s := by
  unfold addL
  split
  · refine ⟨by simp, ?_⟩
    simp [List.getD_eq_getElem?_getD]
  · rename_i hn
    have h1 : L ≠ [] := fun e => hn (.inl e)
    have h2 := h h1
    refine ⟨h1, ?_⟩
    have : ¬ epI (L.getD (L.length - 1) 0) < epI s := fun e => hn (.inr e)
    omega
theorem tabL_last {l : List Int} (hr : Rises l) : ∀ k, k < l.length → tabL l (k + 1) ≠ [] ∧ epI ((tabL l (k + 1)).getD ((tabL l (k + 1)).length - 1) 0) = epI (l.getD k 0)
  | 0, h => by
    have := addL_last (tabL l 0) (l.getD 0 0) (fun h => absurd rfl h)
    exact this
  | k + 1, h => by
    obtain ⟨h1, h2⟩ := tabL_last hr k (by omega)
    exact addL_last (tabL l (k + 1)) (l.getD (k + 1) 0) (fun _ => by rw [h2]; exact (hr k (by omega)).2)
theorem tabL_len (l : List Int) : ∀ k, (tabL l k).length ≤ k
  | 0 => Nat.le_refl _
  | k + 1 => by
    have := tabL_len l k
    show (addL (tabL l k) (l.getD k 0)).length ≤ k + 1
    unfold addL
    split <;> (try rw [List.length_append]) <;> (try simp) <;> omega
theorem tabL_mem (l : List Int) : ∀ k, k ≤ l.length → ∀ x ∈ tabL l k, x ∈ l
  | 0, _, x, h => by cases h
  | k + 1, hk, x, h => by
    have ih := tabL_mem l k (by omega)
    change x ∈ addL (tabL l k) (l.getD k 0) at h
    unfold addL at h
    split at h
    · rcases List.mem_append.1 h with h | h
      · exact ih x h
      · have hx : x = l.getD k 0 := List.mem_singleton.1 h
        rw [hx, List.getD_eq_getElem?_getD, List.getElem?_eq_getElem (by omega)]
        exact List.getElem_mem _
    · exact ih x h
/-- a good table with one record more is good -/
theorem good_add {L : List Int} {E s : Int} (hg : GoodT L E) (ho : ofI s = E) (he : L ≠ [] → epI (L.getD (L.length - 1) 0) ≤ epI s) (hE : E ≤ 17592186044415) : GoodT (addL L s) (E + 1) := by
  obtain ⟨h1, h2, h3⟩ := hg
  refine ⟨?_, by omega, by omega⟩
  intro i hi
  unfold addL at hi ⊢
  split
  · rename_i hc
    rw [if_pos hc] at hi
    simp at hi
    rcases Nat.lt_or_ge i L.length with h | h
    · obtain ⟨g1, g2⟩ := h1 i h
      have e1 : (L ++ [s]).getD i 0 = L.getD i 0 := by simp [List.getD_eq_getElem?_getD, List.getElem?_append_left h]
      refine ⟨by rw [e1]; omega, fun hp => ?_⟩
      have e2 : (L ++ [s]).getD (i - 1) 0 = L.getD (i - 1) 0 := by simp [List.getD_eq_getElem?_getD, List.getElem?_append_left (show i - 1 < L.length by omega)]
      rw [e1, e2]
      exact g2 hp
    · obtain rfl : i = L.length := by omega
      have e1 : (L ++ [s]).getD L.length 0 = s := by simp [List.getD_eq_getElem?_getD]
      refine ⟨by rw [e1]; omega, fun hp => ?_⟩
      have e2 : (L ++ [s]).getD (L.length - 1) 0 = L.getD (L.length - 1) 0 := by simp [List.getD_eq_getElem?_getD, List.getElem?_append_left (show L.length - 1 < L.length by omega)]
      rw [e1, e2]
      have hlast := (h1 (L.length - 1) (by omega)).1
      have hne : L ≠ [] := by intro h; rw [h] at hp; simp at hp
      rcases hc with hc | hc
      · exact absurd hc hne
      · exact ⟨hc, by omega⟩
  · rename_i hc
    rw [if_neg hc] at hi
    obtain ⟨g1, g2⟩ := h1 i hi
    exact ⟨by omega, g2⟩
theorem good_nil {E : Int} (h0 : 0 ≤ E) (h1 : E ≤ 17592186044416) : GoodT [] E := ⟨fun i hi => absurd hi (by simp), h0, h1⟩
/-- where record k lies -/
theorem rises_off {l : List Int} (hr : Rises l) : ∀ k, k < l.length → ofI (l.getD k 0) = ofI (l.getD 0 0) + k
  | 0, _ => by simp
  | k + 1, h => by
    have h1 := rises_off hr k (by omega)
    have h2 := (hr k h).1
    rw [h2, h1]; push_cast; omega
theorem tab_good {l : List Int} (hr : Rises l) (hw : IsW l) (h0 : 0 < l.length) (hm : ofI (l.getD 0 0) + l.length ≤ 17592186044416) : ∀ k, k ≤ l.length → GoodT (tabL l k) (ofI (l.getD 0 0) + k)
  | 0, _ => by
    have : 0 ≤ ofI (l.getD 0 0) := by unfold ofI; omega
    exact good_nil (by omega) (by omega)
  | k + 1, h => by
    have ih := tab_good hr hw h0 hm k (by omega)
    have := good_add ih (rises_off hr k (by omega)) (fun hne => by
      cases k with
      | zero => exact absurd rfl hne
      | succ k =>
        rw [(tabL_last hr k (by omega)).2]
        exact (hr k (by omega)).2) (by omega)
    rw [show ((ofI (l.getD 0 0) + k : Int)) + 1 = ofI (l.getD 0 0) + ((k + 1 : Nat) : Int) by push_cast; omega] at this
    exact this
end Go.Proofs.Ytmkoabalakfehaa
