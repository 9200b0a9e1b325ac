/- Records one behind the other, cut off anywhere: plain facts. -/
import Derived.Test.YtonifnbmofbakaaFrAllMath
set_option linter.unusedVariables false
set_option linter.unusedSimpArgs false
namespace Go.Proofs.Ytonifnbmofbakaa
def catR (l : List (List Int)) : Nat → List Int
  | 0 => []
  | k + 1 => catR l k ++ recB k (l.getD k [])
def offR (l : List (List Int)) : Nat → Nat
  | 0 => 0
  | k + 1 => offR l k + 16 + (l.getD k []).length
def recsR (l : List (List Int)) : Nat → List (Int × List Int)
  | 0 => []
  | k + 1 => recsR l k ++ [((k : Int), l.getD k [])]
theorem catR_len (l : List (List Int)) : ∀ k, (catR l k).length = offR l k
  | 0 => rfl
  | k + 1 => by rw [catR, offR, List.length_append, catR_len l k, recB_len]; omega
theorem recsR_len (l : List (List Int)) : ∀ k, (recsR l k).length = k
  | 0 => rfl
  | k + 1 => by rw [recsR, List.length_append, recsR_len l k]; rfl
theorem recsR_at (l : List (List Int)) : ∀ k i, i < k → (recsR l k)[i]? = some ((i : Int), l.getD i [])
  | 0, i, h => by omega
  | k + 1, i, h => by
    rw [recsR]
    rcases Nat.lt_or_ge i k with h' | h'
    · rw [List.getElem?_append_left (by rw [recsR_len]; exact h')]; exact recsR_at l k i h'
    · obtain rfl : i = k := by omega
      rw [List.getElem?_append_right (by rw [recsR_len]; omega), recsR_len, Nat.sub_self]; rfl
theorem isB_catR {l : List (List Int)} (h : ∀ i, IsB (l.getD i [])) : ∀ k, IsB (catR l k)
  | 0 => fun i => by simp [catR]
  | k + 1 => isB_append (isB_catR h k) (isB_recB _ (h k))
theorem offR_mono (l : List (List Int)) {j n : Nat} (h : j ≤ n) : offR l j ≤ offR l n := by
  induction n with
  | zero => obtain rfl : j = 0 := by omega
            exact Nat.le_refl _
  | succ n ih =>
    rcases Nat.lt_or_ge j (n + 1) with h' | h'
    · have := ih (by omega); rw [offR]; omega
    · obtain rfl : j = n + 1 := by omega
      exact Nat.le_refl _
theorem offR_bd (l : List (List Int)) : ∀ n, (∀ i, i < n → (l.getD i []).length ≤ 100) → offR l n ≤ 116 * n
  | 0, _ => Nat.le_refl _
  | n + 1, h => by have := offR_bd l n (fun i hi => h i (by omega)); have := h n (by omega); rw [offR]; omega
theorem catR_split (l : List (List Int)) : ∀ {n j : Nat}, j ≤ n → ∃ T, catR l n = catR l j ++ T
  | 0, j, h => by obtain rfl : j = 0 := by omega
                  exact ⟨[], rfl⟩
  | n + 1, j, h => by
    rcases Nat.lt_or_ge j (n + 1) with h' | h'
    · obtain ⟨T, hT⟩ := catR_split l (show j ≤ n by omega)
      exact ⟨T ++ recB n (l.getD n []), by rw [catR, hT, List.append_assoc]⟩
    · obtain rfl : j = n + 1 := by omega
      exact ⟨[], by simp⟩
/-- what stands from record j on, cut off -/
theorem cut_drop (l : List (List Int)) (n j cut : Nat) (hj : j < n) (hc : offR l j ≤ cut) : ∃ T, ((catR l n).take cut).drop (offR l j) = (recB j (l.getD j []) ++ T).take (cut - offR l j) := by
  obtain ⟨T, hT⟩ := catR_split l (show j + 1 ≤ n by omega)
  refine ⟨T, ?_⟩
  rw [hT, catR, List.append_assoc, List.take_append, catR_len, List.drop_append]
  rw [List.drop_of_length_le (by rw [List.length_take, catR_len]; omega), List.nil_append, List.length_take, catR_len]
  rw [show offR l j - min cut (offR l j) = 0 by omega, List.drop_zero]
theorem cuts_rd (l : List (List Int)) (n cut : Nat) (hb : ∀ i, i < n → (l.getD i []).length ≤ 100) (hn : n ≤ 12) (hc : cut ≤ offR l n) : ∀ j, j ≤ n → offR l j ≤ cut → Rd ((catR l n).take cut) j (recsR l j) (offR l j)
  | 0, _, _ => ⟨rfl, rfl⟩
  | j + 1, hj, ho => by
    have h1 : offR l (j + 1) = offR l j + 16 + (l.getD j []).length := rfl
    have hp := hb j (by omega)
    refine ⟨recsR l j, offR l j, j, l.getD j [], 16 + (l.getD j []).length, cuts_rd l n cut hb hn hc j (by omega) (by omega), ?_, ?_, rfl, by omega⟩
    · rw [List.length_take, catR_len]; omega
    · obtain ⟨T, hT⟩ := cut_drop l n j cut (by omega) (by omega)
      rw [hT, List.take_append, List.take_of_length_le (by rw [recB_len]; omega)]
      exact getR_rec _ _ _ (by omega) (by omega) (by omega)
theorem getR_part (at' : Int) (p T : List Int) (q : Nat) (hq : 0 < q) (hq2 : q < 16 + p.length) (hp : p.length ≤ 1024) : (getR ((recB at' p ++ T).take q)).2.2.2 = 3 := by
  have hlen : ((recB at' p ++ T).take q).length = q := by rw [List.length_take, List.length_append, recB_len]; omega
  unfold getR
  rw [hlen]
  split
  · rfl
  · rename_i h4
    have hr : rdN ((recB at' p ++ T).take q) 4 = p.length := by
      have h := parts (headB at' p.length) (leB (sumOf (headB at' p.length ++ p)) 4) p T p.length (headB_len _ _) (leB_len _ _) rfl
      rw [rdN_congr (ys := recB at' p ++ T) 4 (fun i hi => take_getD _ (by omega))]
      exact h.2.2.2.trans (headB_rd _ _ hp)
    rw [hr]
    rw [if_neg (by omega), if_pos (by omega)]
theorem cuts_stop (l : List (List Int)) (n cut j : Nat) (hb : ∀ i, i < n → (l.getD i []).length ≤ 100) (hc : cut ≤ offR l n) (hj : j ≤ n) (ho : offR l j ≤ cut) (hs : j = n ∨ cut < offR l (j + 1)) :
    Stop ((catR l n).take cut) (offR l j) (if offR l j = cut then 0 else 3) := by
  have hlen : ((catR l n).take cut).length = cut := by rw [List.length_take, catR_len]; omega
  by_cases h : offR l j = cut
  · rw [if_pos h]; exact .inl ⟨by rw [hlen, h], rfl⟩
  · rw [if_neg h]
    have hjn : j < n := by
      rcases Nat.lt_or_ge j n with h' | h'
      · exact h'
      · obtain rfl : j = n := by omega
        omega
    have h1 : offR l (j + 1) = offR l j + 16 + (l.getD j []).length := rfl
    have hp := hb j hjn
    refine .inr ⟨by rw [hlen]; omega, ?_, by omega⟩
    obtain ⟨T, hT⟩ := cut_drop l n j cut hjn ho
    rw [hT]
    exact getR_part _ _ _ _ (by omega) (by omega) (by omega)
/-- the answer is the only one -/
theorem rd_only {zs : List Int} (hB : IsB zs) {k k' : Nat} {L L' : List (Int × List Int)} {n n' : Nat} {e e' : Int} (h : Rd zs k L n) (hs : Stop zs n e) (h' : Rd zs k' L' n') (hs' : Stop zs n' e') : k = k' ∧ L = L' ∧ n = n' ∧ e = e' := by
  obtain rfl : k = k' := Nat.le_antisymm (h'.stop hB hs' h) (h.stop hB hs h')
  obtain ⟨rfl, rfl⟩ := h.same h'
  refine ⟨rfl, rfl, rfl, ?_⟩
  rcases hs with ⟨h1, rfl⟩ | ⟨h1, h2, h3⟩ <;> rcases hs' with ⟨h4, rfl⟩ | ⟨h4, h5, h6⟩
  · rfl
  · omega
  · omega
  · rw [← h2, ← h5]
end Go.Proofs.Ytonifnbmofbakaa
