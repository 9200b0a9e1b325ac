/- Records as bytes: plain facts. -/
import Derived.Test.YtonifnbmofbakaaFrAwake
set_option linter.unusedVariables false
set_option linter.unusedSimpArgs false
namespace Go.Proofs.Ytonifnbmofbakaa
theorem rdN_leB (v : Int) (h0 : 0 ≤ v) : ∀ k, rdN (leB v k) k = v % 2 ^ (8 * k)
  | 0 => by simp [rdN]
  | k + 1 => by
    rw [rdN, leB, rdN_congr (ys := leB v k) k (fun i hi => by rw [List.getD_eq_getElem?_getD, List.getD_eq_getElem?_getD, List.getElem?_append_left (by rw [leB_len]; exact hi)]), rdN_leB v h0 k]
    have : (leB v k ++ [v / 2 ^ (8 * k) % 256]).getD k 0 = v / 2 ^ (8 * k) % 256 := by
      rw [List.getD_eq_getElem?_getD, List.getElem?_append_right (by rw [leB_len]; omega), leB_len, Nat.sub_self]; rfl
    rw [this]
    obtain ⟨a, rfl⟩ := Int.eq_ofNat_of_zero_le h0
    have e := Nat.mod_mul (a := 2 ^ (8 * k)) (b := 256) (x := a)
    rw [show 8 * (k + 1) = 8 * k + 8 by omega, show (2 : Int) ^ (8 * k + 8) = ((2 ^ (8 * k) * 256 : Nat) : Int) by rw [Int.pow_add]; simp]
    rw [show ((2 : Int) ^ (8 * k)) = ((2 ^ (8 * k) : Nat) : Int) by simp]
    rw [← Int.natCast_emod, ← Int.natCast_emod, e]
    rw [← Int.natCast_ediv, show (256 : Int) = ((256 : Nat) : Int) from rfl, ← Int.natCast_emod, ← Int.natCast_mul, ← Int.natCast_add, Nat.mul_comm (2 ^ (8 * k))]
theorem rdN_set (l : List Int) (j : Nat) (v : Int) (hj : j < l.length) : ∀ k, j < k → rdN (l.set j v) k = rdN l k + (v - l.getD j 0) * 2 ^ (8 * j)
  | 0, h => by omega
  | k + 1, h => by
    rw [rdN, rdN]
    by_cases h' : j < k
    · rw [rdN_set l j v hj k h']
      have : (l.set j v).getD k 0 = l.getD k 0 := by rw [List.getD_eq_getElem?_getD, List.getElem?_set_ne (by omega), List.getD_eq_getElem?_getD]
      rw [this]; omega
    · obtain rfl : j = k := by omega
      rw [rdN_congr (zs := l.set j v) (ys := l) j (fun i hi => by rw [List.getD_eq_getElem?_getD, List.getElem?_set_ne (by omega), List.getD_eq_getElem?_getD])]
      have : (l.set j v).getD j 0 = v := by rw [List.getD_eq_getElem?_getD, List.getElem?_set_self hj]; rfl
      rw [this, Int.sub_mul]; omega
theorem rdN_set_ne (l : List Int) (j : Nat) (v : Int) (hj : j < l.length) (k : Nat) (hk : j < k) (hv : l.getD j 0 ≠ v) : rdN (l.set j v) k ≠ rdN l k := by
  rw [rdN_set l j v hj k hk]
  intro h
  have : (v - l.getD j 0) * 2 ^ (8 * j) = 0 := by omega
  rcases Int.mul_eq_zero.1 this with h | h
  · omega
  · exact absurd h (Int.ne_of_gt (Int.pow_pos (by omega)))
/-- the parts of a record in its bytes -/
theorem parts (H S P R : List Int) (n : Nat) (hH : H.length = 12) (hS : S.length = 4) (hP : P.length = n) :
    (H ++ S ++ P ++ R).take 12 = H ∧ ((H ++ S ++ P ++ R).take 16).drop 12 = S ∧ ((H ++ S ++ P ++ R).take (16 + n)).drop 16 = P ∧ rdN (H ++ S ++ P ++ R) 4 = rdN H 4 := by
  refine ⟨?_, ?_, ?_, ?_⟩
  · rw [List.append_assoc, List.append_assoc, List.take_append_of_le_length (by omega), List.take_of_length_le (by omega)]
  · rw [List.append_assoc, List.take_append_of_le_length (by simp; omega), List.take_of_length_le (by simp; omega), List.drop_append_of_le_length (by omega), List.drop_of_length_le (by omega)]; rfl
  · rw [List.take_append_of_le_length (by simp; omega), List.take_of_length_le (by simp; omega)]
    rw [List.drop_append_of_le_length (by simp; omega), List.drop_of_length_le (by simp; omega)]; rfl
  · apply rdN_congr
    intro i hi
    rw [List.append_assoc, List.append_assoc, List.getD_eq_getElem?_getD, List.getD_eq_getElem?_getD, List.getElem?_append_left (by omega)]
theorem headB_len (at' : Int) (n : Nat) : (headB at' n).length = 12 := by simp [headB, leB_len]
theorem headB_rd (at' : Int) (n : Nat) (hn : n ≤ 1024) : rdN (headB at' n) 4 = n := by
  have h := rdN_leB n (by omega) 4
  rw [rdN_congr (ys := leB (n : Int) 4) 4 (fun i hi => by unfold headB; rw [List.getD_eq_getElem?_getD, List.getD_eq_getElem?_getD, List.getElem?_append_left (by rw [leB_len]; omega)]), h]
  omega
theorem headB_at (at' : Int) (n : Nat) (a0 : 0 ≤ at') (a1 : at' ≤ 18446744073709551615) : rdN ((headB at' n).drop 4) 8 = at' := by
  have h := rdN_leB at' a0 8
  have : (headB at' n).drop 4 = leB at' 8 := by unfold headB; rw [List.drop_append_of_le_length (by rw [leB_len]; omega), List.drop_of_length_le (by rw [leB_len]; omega)]; rfl
  rw [this, h]
  exact Int.emod_eq_of_lt a0 (by omega)
theorem sum_rd (l : List Int) : rdN (leB (sumOf l) 4) 4 = sumOf l := by
  obtain ⟨_, h1, h2⟩ := sumOf_good l
  rw [rdN_leB _ h1 4]
  exact Int.emod_eq_of_lt h1 (by omega)
/-- a record with whatever behind it is whole -/
theorem rec_ok (at' : Int) (p R : List Int) (n : Nat) (hn : p.length = n) (hn2 : n ≤ 1024) (a0 : 0 ≤ at') (a1 : at' ≤ 18446744073709551615) :
    rdN (recB at' p ++ R) 4 = n ∧ sumOf ((recB at' p ++ R).take 12 ++ ((recB at' p ++ R).take (16 + n)).drop 16) = rdN (((recB at' p ++ R).take 16).drop 12) 4 ∧ rdN (((recB at' p ++ R).take 12).drop 4) 8 = at' ∧ ((recB at' p ++ R).take (16 + n)).drop 16 = p := by
  obtain ⟨h1, h2, h3, h4⟩ := parts (headB at' p.length) (leB (sumOf (headB at' p.length ++ p)) 4) p R n (headB_len _ _) (leB_len _ _) hn
  have e : recB at' p = headB at' p.length ++ leB (sumOf (headB at' p.length ++ p)) 4 ++ p := rfl
  rw [← e] at h1 h2 h3 h4
  rw [h1, h2, h3, h4]
  exact ⟨by rw [headB_rd _ _ (by omega), hn], (sum_rd _).symm, headB_at _ _ a0 a1, rfl⟩
theorem getD_byte {l : List Int} (h : IsB l) (i : Nat) : 0 ≤ l.getD i 0 ∧ l.getD i 0 ≤ 255 := h i
/-- a record of which a byte behind the length is another is none -/
theorem rec_turned (at' : Int) (p : List Int) (n k : Nat) (t : Int) (hn : p.length = n) (hn2 : n ≤ 1024) (hp : IsB p) (h4 : 4 ≤ k) (hk : k < 16 + n) (ht : 0 ≤ t ∧ t ≤ 255) (hne : (recB at' p).getD k 0 ≠ t) :
    rdN ((recB at' p).set k t) 4 = n ∧ sumOf (((recB at' p).set k t).take 12 ++ (((recB at' p).set k t).take (16 + n)).drop 16) ≠ rdN ((((recB at' p).set k t).take 16).drop 12) 4 := by
  have hHl := headB_len at' p.length
  have hSl := leB_len (sumOf (headB at' p.length ++ p)) 4
  have hHB : IsB (headB at' p.length) := isB_append (isB_leB _ _) (isB_leB _ _)
  have hsum := sum_rd (headB at' p.length ++ p)
  have hrd := headB_rd at' p.length (by omega)
  have hrdn : ∀ l : List Int, l.length = 12 → (∀ i, i < 4 → l.getD i 0 = (headB at' p.length).getD i 0) → rdN l 4 = n := fun l hl h => by rw [rdN_congr 4 h, hrd, hn]
  have hset := fun (i : Nat) (h : i < (headB at' p.length ++ p).length) => sumOf_set_eq (headB at' p.length ++ p) i t h (isB_append hHB hp i) ht
  unfold recB at hne ⊢
  generalize headB at' p.length = H at *
  generalize hs0 : sumOf (H ++ p) = s at *
  generalize hS : leB s 4 = S at *
  rw [List.getD_eq_getElem?_getD] at hne
  by_cases c1 : k < 12
  · have hs : (H ++ S ++ p).set k t = H.set k t ++ S ++ p ++ [] := by
      rw [List.append_nil, List.append_assoc, List.append_assoc, List.set_append_left _ _ (by omega)]
    obtain ⟨e1, e2, e3, e4⟩ := parts (H.set k t) S p [] n (by simp [hHl]) hSl hn
    rw [hs, e1, e2, e3, e4]
    refine ⟨hrdn _ (by simp [hHl]) (fun i hi => by rw [List.getD_eq_getElem?_getD, List.getElem?_set_ne (by omega), List.getD_eq_getElem?_getD]), ?_⟩
    rw [hsum, ← List.set_append_left (t := p) _ _ (by omega)]
    intro h
    have := (hset k (by simp; omega)).1 h
    rw [List.append_assoc, List.getElem?_append_left (by omega)] at hne
    rw [List.getD_eq_getElem?_getD, List.getElem?_append_left (by omega)] at this
    exact hne this
  · by_cases c2 : k < 16
    · have hs : (H ++ S ++ p).set k t = H ++ S.set (k - 12) t ++ p ++ [] := by
        rw [List.append_nil, List.set_append_left _ _ (by simp; omega), List.set_append_right _ _ (by omega), hHl]
      obtain ⟨e1, e2, e3, e4⟩ := parts H (S.set (k - 12) t) p [] n hHl (by simp [hSl]) hn
      rw [hs, e1, e2, e3, e4]
      refine ⟨hrdn _ hHl (fun i hi => rfl), ?_⟩
      have h5 := rdN_set_ne S (k - 12) t (by omega) 4 (by omega) (by
        rw [List.getD_eq_getElem?_getD]
        rw [List.getElem?_append_left (by simp; omega), List.getElem?_append_right (by omega), hHl] at hne
        exact hne)
      rw [hsum] at h5
      exact fun h => h5 (by rw [← h]; exact hs0)
    · have hs : (H ++ S ++ p).set k t = H ++ S ++ p.set (k - 16) t ++ [] := by
        rw [List.append_nil, List.set_append_right _ _ (by simp; omega)]
        simp [hHl, hSl]
      obtain ⟨e1, e2, e3, e4⟩ := parts H S (p.set (k - 16) t) [] n hHl hSl (by simp [hn])
      rw [hs, e1, e2, e3, e4]
      refine ⟨hrdn _ hHl (fun i hi => rfl), ?_⟩
      rw [hsum]
      have h6 := hset (k - 4) (by simp; omega)
      rw [List.set_append_right _ _ (by omega), hHl, show k - 4 - 12 = k - 16 by omega] at h6
      intro h
      have := h6.1 h
      rw [List.getElem?_append_right (by simp; omega)] at hne
      rw [List.getD_eq_getElem?_getD, List.getElem?_append_right (by omega), hHl, show k - 4 - 12 = k - 16 by omega] at this
      simp only [List.length_append, hHl, hSl] at hne
      exact hne this
end Go.Proofs.Ytonifnbmofbakaa
