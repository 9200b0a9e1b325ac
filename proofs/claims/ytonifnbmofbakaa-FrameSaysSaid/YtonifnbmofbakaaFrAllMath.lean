/- Reading records one behind the other: plain facts. -/
import Derived.Test.YtonifnbmofbakaaFrAll
set_option linter.unusedVariables false
set_option linter.unusedSimpArgs false
namespace Go.Proofs.Ytonifnbmofbakaa
theorem getR_parts {zs : List Int} (hB : IsB zs) {a : Int} {p : List Int} {m : Nat} (h : getR zs = (a, p, m, 0)) :
    ∃ N : Nat, rdN zs 4 = N ∧ N ≤ 1024 ∧ 16 + N ≤ zs.length ∧ sumOf (zs.take 12 ++ (zs.take (16 + N)).drop 16) = rdN ((zs.take 16).drop 12) 4 ∧ a = rdN ((zs.take 12).drop 4) 8 ∧ p = (zs.take (16 + N)).drop 16 ∧ m = 16 + N := by
  have h0 := (rdN_bd hB 4 (by omega)).1
  unfold getR at h
  split at h
  · simp at h
  · split at h
    · simp at h
    · split at h
      · simp at h
      · split at h
        · rename_i h1 h2 h3 h4
          simp only [Prod.mk.injEq] at h
          exact ⟨(rdN zs 4).toNat, by omega, by omega, by omega, h4, h.1.symm, h.2.1.symm, h.2.2.1.symm⟩
        · simp at h
theorem getR_append {zs : List Int} (hB : IsB zs) (ys : List Int) {a : Int} {p : List Int} {m : Nat} (h : getR zs = (a, p, m, 0)) : getR (zs ++ ys) = (a, p, m, 0) := by
  obtain ⟨N, h1, h2, h3, h4, rfl, rfl, rfl⟩ := getR_parts hB h
  have t : ∀ k, k ≤ zs.length → (zs ++ ys).take k = zs.take k := fun k hk => List.take_append_of_le_length hk
  have r : rdN (zs ++ ys) 4 = rdN zs 4 := rdN_congr 4 fun i hi => by rw [List.getD_eq_getElem?_getD, List.getD_eq_getElem?_getD, List.getElem?_append_left (by omega)]
  have := getR_yes (zs := zs ++ ys) N (by rw [r, h1]) h2 (by rw [List.length_append]; omega) (by rw [t 12 (by omega), t (16 + N) h3, t 16 (by omega)]; exact h4)
  rw [this, t 12 (by omega), t (16 + N) h3]
theorem Rd.append {zs : List Int} (hB : IsB zs) (ys : List Int) : ∀ {k : Nat} {L : List (Int × List Int)} {n : Nat}, Rd zs k L n → Rd (zs ++ ys) k L n
  | 0, _, _, h => h
  | k + 1, L, n, ⟨L', n', a, p, m, h, h2, h3, h4, h5⟩ => ⟨L', n', a, p, m, Rd.append hB ys h, by rw [List.length_append]; omega, by rw [List.drop_append_of_le_length (by omega)]; exact getR_append (isB_drop hB _) ys h3, h4, h5⟩
theorem Rd.same {zs : List Int} : ∀ {k : Nat} {L L' : List (Int × List Int)} {n n' : Nat}, Rd zs k L n → Rd zs k L' n' → L = L' ∧ n = n'
  | 0, _, _, _, _, ⟨h1, h2⟩, ⟨h3, h4⟩ => ⟨by rw [h1, h3], by rw [h2, h4]⟩
  | k + 1, _, _, _, _, ⟨L1, n1, a, p, m, h, _, h3, h4, h5⟩, ⟨L2, n2, b, q, m2, h', _, h3', h4', h5'⟩ => by
    obtain ⟨rfl, rfl⟩ := Rd.same h h'
    rw [h3] at h3'
    simp only [Prod.mk.injEq] at h3'
    obtain ⟨rfl, rfl, rfl, _⟩ := h3'
    exact ⟨by rw [h4, h4'], by rw [h5, h5']⟩
theorem Rd.first {zs : List Int} (hB : IsB zs) : ∀ {k j : Nat} {L : List (Int × List Int)} {n : Nat}, Rd zs k L n → j ≤ k → ∃ n', Rd zs j (L.take j) n' ∧ n' ≤ n
  | 0, j, L, n, h, hj => by
    obtain rfl : j = 0 := by omega
    obtain ⟨rfl, rfl⟩ := h
    exact ⟨0, ⟨rfl, rfl⟩, Nat.le_refl _⟩
  | k + 1, j, L, n, h0, hj => by
    rcases Nat.lt_or_ge k j with h' | h'
    · obtain rfl : j = k + 1 := by omega
      exact ⟨n, by rw [List.take_of_length_le (by rw [(Rd.len hB h0).1]; exact Nat.le_refl _)]; exact h0, Nat.le_refl _⟩
    · obtain ⟨L', n', a, p, m, h, h2, h3, h4, h5⟩ := h0
      obtain ⟨n1, q1, q2⟩ := Rd.first hB h h'
      refine ⟨n1, ?_, by omega⟩
      rw [h4, List.take_append_of_le_length (by rw [(Rd.len hB h).1]; exact h')]
      exact q1
theorem Rd.stop {zs : List Int} (hB : IsB zs) {k k' : Nat} {L L' : List (Int × List Int)} {n n' : Nat} {e : Int} (h : Rd zs k L n) (hs : Stop zs n e) (h' : Rd zs k' L' n') : k' ≤ k := by
  rcases Nat.lt_or_ge k k' with hk | hk
  · obtain ⟨n1, ⟨L2, n2, a, p, m, q1, q2, q3, _, _⟩, _⟩ := h'.first hB (show k + 1 ≤ k' from hk)
    obtain ⟨_, rfl⟩ := h.same q1
    rcases hs with ⟨h1, _⟩ | ⟨_, h2, h3⟩
    · omega
    · rw [q3] at h2
      exact absurd h2.symm h3
  · exact hk
theorem stop_err {zs : List Int} (hB : IsB zs) {n : Nat} {e : Int} (h : Stop zs n e) : (e = 0 ∨ e = 2 ∨ e = 3 ∨ e = 14) ∧ n ≤ zs.length ∧ (e = 0 → n = zs.length) := by
  rcases h with ⟨rfl, rfl⟩ | ⟨h1, h2, h3⟩
  · exact ⟨.inl rfl, Nat.le_refl _, fun _ => rfl⟩
  · have := getR_cases (isB_drop hB n)
    rw [h2] at this
    refine ⟨?_, by omega, fun h => absurd h h3⟩
    rcases this with ⟨_, _, _, _, h⟩ | ⟨h, _⟩
    · omega
    · exact absurd h h3
/-- all that is told of the first part is told of the whole -/
theorem all_more {us vs : List Int} (hB : IsB us) (hB2 : IsB vs) {k k2 : Nat} {L L2 : List (Int × List Int)} {n m : Nat} {e2 : Int} (h : Rd us k L n) (h2 : Rd (us ++ vs) k2 L2 m) (hs : Stop (us ++ vs) m e2) :
    k ≤ k2 ∧ n ≤ m ∧ L = L2.take k := by
  have ha := h.append hB vs
  have hk := h2.stop (isB_append hB hB2) hs ha
  obtain ⟨n', q1, q2⟩ := h2.first (isB_append hB hB2) hk
  obtain ⟨rfl, rfl⟩ := ha.same q1
  exact ⟨hk, q2, rfl⟩
end Go.Proofs.Ytonifnbmofbakaa
