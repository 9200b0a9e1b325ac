/- Is a row an order: two ways to ask. -/
import Derived.Test.YtmejphlpcgochaaTo1
import Derived.Test.YtmejphlpcgochaaToM1
set_option linter.unusedVariables false
set_option linter.unusedSimpArgs false
namespace Go.Proofs.Ytmejphlpcgochaa
open Go.RowKit
theorem idxP_spec (p : Int → Bool) : ∀ (l : List Int) (k : Nat), (idxP p l k = -1 ∧ ∀ x ∈ l, p x = false) ∨ ∃ j : Nat, idxP p l k = (k : Int) + j ∧ (∃ x, l[j]? = some x ∧ p x = true) ∧ ∀ i : Nat, i < j → ∀ x, l[i]? = some x → p x = false
  | [], k => .inl ⟨rfl, fun x hx => (by cases hx)⟩
  | y :: l, k => by
    unfold idxP
    by_cases hy : p y = true
    · right
      rw [if_pos hy]
      exact ⟨0, by simp, ⟨y, rfl, hy⟩, fun i hi => by omega⟩
    · rw [if_neg hy]
      have hy' : p y = false := by simpa using hy
      rcases idxP_spec p l (k + 1) with ⟨h1, h2⟩ | ⟨j, h1, h2, h3⟩
      · left
        refine ⟨h1, fun x hx => ?_⟩
        rcases List.mem_cons.1 hx with rfl | hx
        · exact hy'
        · exact h2 x hx
      · right
        refine ⟨j + 1, by omega, by simpa using h2, fun i hi x hx => ?_⟩
        match i, hx with
        | 0, hx => simp at hx; subst hx; exact hy'
        | i + 1, hx => exact h3 i (by omega) x (by simpa using hx)
/-- the first place of a number in a row; -1: none -/
def idxL (l : List Int) (v : Int) : Int := idxP (fun x => v == x) l 0
theorem idxL_spec (l : List Int) (v : Int) : (idxL l v = -1 ∧ v ∉ l) ∨ ∃ j : Nat, idxL l v = j ∧ l[j]? = some v ∧ ∀ i : Nat, i < j → l[i]? ≠ some v := by
  rcases idxP_spec (fun x => v == x) l 0 with ⟨h1, h2⟩ | ⟨j, h1, ⟨x, h2, h3⟩, h4⟩
  · exact .inl ⟨h1, fun h => by have := h2 v h; simp at this⟩
  · have : v = x := beq_iff_eq.1 h3
    subst this
    exact .inr ⟨j, by unfold idxL; omega, h2, fun i hi hh => by have := h4 i hi v hh; simp at this⟩
def okI (N : Int) (E : List Ed) (l : List Int) (i : Nat) : Bool := inG N (l.getD i 0) && decide (idxL l (l.getD i 0) = i) && (besL N E (l.getD i 0) 1).all fun a => decide (idxL l a ≤ i)
def okR (N : Int) (E : List Ed) (l : List Int) (i : Nat) : Bool := inG N (l.getD i 0) && !hasI (l.take i) (l.getD i 0) && (besL N E (l.getD i 0) 1).all fun a => hasI (l.take i) a
def isT (N : Int) (E : List Ed) (l : List Int) : Bool := (orderT N E).isSome && decide ((l.length : Int) = N) && (List.range l.length).all (okI N E l)
def isR (N : Int) (E : List Ed) (l : List Int) : Bool := (orderT N E).isSome && decide ((l.length : Int) = N) && (List.range l.length).all (okR N E l)
theorem mem_take_iff (l : List Int) (i : Nat) (a : Int) : a ∈ l.take i ↔ ∃ j : Nat, j < i ∧ l[j]? = some a := by
  constructor
  · intro h
    obtain ⟨j, hj⟩ := List.getElem?_of_mem h
    have hji : j < i := by
      have := (List.getElem?_eq_some_iff.1 hj).1
      rw [List.length_take] at this; omega
    rw [List.getElem?_take, if_pos hji] at hj
    exact ⟨j, hji, hj⟩
  · rintro ⟨j, h1, h2⟩
    exact List.mem_of_getElem? (i := j) (by rw [List.getElem?_take, if_pos h1]; exact h2)
theorem is_same (N : Int) (E : List Ed) (l : List Int) : isT N E l = isR N E l := by
  unfold isT isR
  cases ho : orderT N E with
  | none => rfl
  | some o =>
    have hg := (orderT_some ho).1
    by_cases hl : (l.length : Int) = N
    · rw [decide_eq_true hl]
      simp only [Option.isSome_some, Bool.true_and]
      have hgd : ∀ i : Nat, i < l.length → l[i]? = some (l.getD i 0) := fun i hi => by rw [List.getD_eq_getElem?_getD, List.getElem?_eq_getElem hi]; rfl
      rw [Bool.eq_iff_iff, List.all_eq_true, List.all_eq_true]
      simp only [List.mem_range]
      constructor
      · intro h
        have hI : ∀ i : Nat, i < l.length → inG N (l.getD i 0) = true ∧ idxL l (l.getD i 0) = i ∧ ∀ a, (a, l.getD i 0) ∈ E → idxL l a ≤ i := fun i hi => by
          have := h i hi
          unfold okI at this
          rw [Bool.and_eq_true, Bool.and_eq_true, List.all_eq_true, decide_eq_true_eq] at this
          exact ⟨this.1.1, this.1.2, fun a ha => of_decide_eq_true (this.2 a ((mem_ahd hg a _).2 ha))⟩
        have hnd : l.Nodup := by
          rw [List.nodup_iff_pairwise_ne, List.pairwise_iff_getElem]
          intro i j hi hj hij heq
          have h1 := (hI i hi).2.1
          have h2 := (hI j hj).2.1
          have e1 : l.getD i 0 = l[i] := by rw [List.getD_eq_getElem?_getD, List.getElem?_eq_getElem hi]; rfl
          have e2 : l.getD j 0 = l[j] := by rw [List.getD_eq_getElem?_getD, List.getElem?_eq_getElem hj]; rfl
          rw [e1, heq, ← e2, h2] at h1
          omega
        have hrg : ∀ x ∈ l, 0 ≤ x ∧ x < N := fun x hx => by
          obtain ⟨i, hi⟩ := List.getElem?_of_mem hx
          have hil := (List.getElem?_eq_some_iff.1 hi).1
          have := (hI i hil).1
          rw [show l.getD i 0 = x by rw [List.getD_eq_getElem?_getD, hi]; rfl] at this
          exact of_decide_eq_true this
        intro i hi
        obtain ⟨h1, h2, h3⟩ := hI i hi
        unfold okR
        rw [h1, Bool.true_and, Bool.and_eq_true, List.all_eq_true]
        refine ⟨?_, fun a ha => ?_⟩
        · rw [Bool.not_eq_true', ← Bool.not_eq_true, hasI_iff, mem_take_iff]
          rintro ⟨j, hj1, hj2⟩
          have := nodup_at hnd hj2 (hgd i hi)
          omega
        · have hE := (mem_ahd hg a _).1 ha
          have hr := good_mem hg hE
          have hal := perm_all hnd hrg (by omega) a hr.1
          have hle := h3 a hE
          rw [hasI_iff, mem_take_iff]
          rcases idxL_spec l a with ⟨_, h4⟩ | ⟨j, h4, h5, _⟩
          · exact absurd hal h4
          · refine ⟨j, ?_, h5⟩
            have hne : j ≠ i := by
              rintro rfl
              rw [hgd j hi] at h5
              injection h5 with h5
              exact hr.2.2 h5.symm
            omega
      · intro h i hi
        have := h i hi
        unfold okR at this
        rw [Bool.and_eq_true, Bool.and_eq_true, List.all_eq_true, Bool.not_eq_true', ← Bool.not_eq_true, hasI_iff, mem_take_iff] at this
        unfold okI
        rw [this.1.1, Bool.true_and, Bool.and_eq_true, List.all_eq_true]
        refine ⟨decide_eq_true ?_, fun a ha => decide_eq_true ?_⟩
        · rcases idxL_spec l (l.getD i 0) with ⟨_, h4⟩ | ⟨j, h4, h5, h6⟩
          · exact absurd (List.mem_of_getElem? (hgd i hi)) h4
          · have h7 : ¬ j < i := fun hlt => this.1.2 ⟨j, hlt, h5⟩
            have h8 : ¬ i < j := fun hlt => h6 i hlt (hgd i hi)
            omega
        · have h7 := this.2 a ha
          rw [hasI_iff, mem_take_iff] at h7
          obtain ⟨j, hj1, hj2⟩ := h7
          rcases idxL_spec l a with ⟨h4, _⟩ | ⟨q, h4, h5, h6⟩
          · omega
          · have : ¬ j < q := fun hlt => h6 j hlt hj2
            omega
    · rw [decide_eq_false hl]; simp
end Go.Proofs.Ytmejphlpcgochaa
