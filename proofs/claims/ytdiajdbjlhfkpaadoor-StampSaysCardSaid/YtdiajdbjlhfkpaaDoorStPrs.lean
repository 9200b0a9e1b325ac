/- Stamps' texts, plainly: what is read of a text. -/
import Derived.Test.YtdiajdbjlhfkpaaDoorStDec
set_option linter.unusedVariables false
set_option linter.unusedSimpArgs false
namespace Go.Proofs.YtdiajdbjlhfkpaaDoor
open Go Go.Lib
theorem idx46 : ∀ t : List UInt8, (∃ a b, t = a ++ 46 :: b ∧ 46 ∉ a ∧ index t [46] = a.length) ∨ (46 ∉ t ∧ index t [46] = -1)
  | [] => .inr ⟨by simp, rfl⟩
  | c :: t => by
    have hi : index (c :: t) [46] = if (46 : UInt8) = c then 0 else if index t [46] = -1 then -1 else index t [46] + 1 := by
      show (if ([46] : List UInt8).isPrefixOf (c :: t) = true then (0 : Int) else if (index t [46] == -1) = true then -1 else index t [46] + 1) = _
      simp only [List.isPrefixOf, Bool.and_true, beq_iff_eq]
    rw [hi]
    by_cases hc : (46 : UInt8) = c
    · left
      exact ⟨[], t, by rw [hc]; rfl, by simp, by rw [if_pos hc]; rfl⟩
    · rw [if_neg hc]
      rcases idx46 t with ⟨a, b, h1, h2, h3⟩ | ⟨h1, h2⟩
      · left
        refine ⟨c :: a, b, by rw [h1]; rfl, ?_, ?_⟩
        · intro hm
          rcases List.mem_cons.1 hm with h | h
          · exact hc h
          · exact h2 h
        · rw [h3, if_neg (by omega)]
          simp
      · right
        refine ⟨?_, by rw [if_pos h2]⟩
        intro hm
        rcases List.mem_cons.1 hm with h | h
        · exact hc h
        · exact h1 h
theorem cut46 (t : List UInt8) : (∃ a b, t = a ++ 46 :: b ∧ 46 ∉ a ∧ cut t [46] = (a, b, true)) ∨ (46 ∉ t ∧ cut t [46] = (t, [], false)) := by
  rcases idx46 t with ⟨a, b, h1, h2, h3⟩ | ⟨h1, h2⟩
  · left
    refine ⟨a, b, h1, h2, ?_⟩
    unfold cut
    rw [h3, if_pos (by omega), h1]
    simp
  · right
    refine ⟨h1, ?_⟩
    unfold cut
    rw [h2, if_neg (by omega)]
theorem split_uniq {a b c d : List UInt8} (h : a ++ 46 :: b = c ++ 46 :: d) (ha : 46 ∉ a) (hc : 46 ∉ c) : a = c ∧ b = d := by
  induction a generalizing c with
  | nil =>
    cases c with
    | nil => simp at h; exact ⟨rfl, h⟩
    | cons x c =>
      simp at h
      exact absurd (by rw [← h.1]; exact List.mem_cons_self ..) hc
  | cons x a ih =>
    cases c with
    | nil =>
      simp at h
      exact absurd (by rw [h.1]; exact List.mem_cons_self ..) ha
    | cons y c =>
      simp at h
      obtain ⟨rfl, h2⟩ := h
      have := ih h2 (fun hm => ha (List.mem_cons_of_mem _ hm)) (fun hm => hc (List.mem_cons_of_mem _ hm))
      exact ⟨by rw [this.1], this.2⟩
def stpTxt (e o : Nat) : List UInt8 := decDigits e ++ 46 :: decDigits o
/-- a stamp's text, read -/
def prsF (t : List UInt8) : Option (Nat × Nat) :=
  if (cut t [46]).2.2 = true then
    match numB (cut t [46]).1, numB (cut t [46]).2.1 with
    | some e, some o => if e < 1048576 ∧ o < 17592186044416 then some (e, o) else none
    | _, _ => none
  else none
theorem dec_no46 (n : Nat) : 46 ∉ decDigits n := fun h => (dec_mem n 46 h).1 rfl
theorem prsF_iff (t : List UInt8) (e o : Nat) : prsF t = some (e, o) ↔ e < 1048576 ∧ o < 17592186044416 ∧ t = stpTxt e o := by
  unfold stpTxt
  constructor
  · intro h
    unfold prsF at h
    rcases cut46 t with ⟨a, b, h1, h2, h3⟩ | ⟨h1, h2⟩
    · rw [h3] at h
      dsimp only at h
      rw [if_pos rfl] at h
      cases ha : numB a with
      | none => rw [ha] at h; cases h
      | some x =>
        cases hb : numB b with
        | none => rw [ha, hb] at h; cases h
        | some y =>
          rw [ha, hb] at h
          dsimp only at h
          split at h
          · rename_i hr
            injection h with h
            injection h with e1 e2
            subst e1 e2
            refine ⟨hr.1, hr.2, ?_⟩
            rw [h1, ((numB_iff a x).1 ha).1, ((numB_iff b y).1 hb).1]
          · cases h
    · rw [h2] at h
      cases h
  · rintro ⟨h1, h2, h3⟩
    unfold prsF
    rcases cut46 t with ⟨a, b, h4, h5, h6⟩ | ⟨h4, h5⟩
    · obtain ⟨rfl, rfl⟩ := split_uniq (h4.symm.trans h3) h5 (dec_no46 e)
      rw [h6]
      dsimp only
      rw [if_pos rfl, (numB_iff _ e).2 ⟨rfl, Nat.le_trans (dec_len e 7 (by omega) (by omega)) (by omega)⟩, (numB_iff _ o).2 ⟨rfl, dec_len o 15 (by omega) (by omega)⟩]
      dsimp only
      rw [if_pos ⟨h1, h2⟩]
    · exact absurd (by rw [h3]; simp) h4
/-- where a text is one, each half is read by strconv as it stands -/
theorem prsF_cut {t : List UInt8} {e o : Nat} (h : prsF t = some (e, o)) : cut t [46] = (decDigits e, decDigits o, true) ∧ parseIntB 64 (decDigits e) = .ok (e : Int) ∧ parseIntB 64 (decDigits o) = .ok (o : Int) := by
  obtain ⟨h1, h2, h3⟩ := (prsF_iff t e o).1 h
  refine ⟨?_, atoi_dec e (by omega), atoi_dec o (by omega)⟩
  rcases cut46 t with ⟨a, b, h4, h5, h6⟩ | ⟨h4, h5⟩
  · obtain ⟨rfl, rfl⟩ := split_uniq (h4.symm.trans h3) h5 (dec_no46 e)
    exact h6
  · exact absurd (by rw [h3]; unfold stpTxt; simp) h4
theorem prsF_none {t : List UInt8} (h : prsF t = none) (e o : Nat) (he : e < 1048576) (ho : o < 17592186044416) : stpTxt e o ≠ t := fun ht => by
  have := (prsF_iff t e o).2 ⟨he, ho, ht.symm⟩
  rw [h] at this
  cases this
end Go.Proofs.YtdiajdbjlhfkpaaDoor
