/- Plain facts on lists of bytes. No program is in sight. -/
import Derived.PlainAid
set_option linter.unusedVariables false
set_option linter.unusedSimpArgs false
namespace Go.Proofs.YteaepgbakcifkaaDoor
/-- every entry is a byte -/
def IsB (zs : List Int) : Prop := ∀ i, 0 ≤ zs.getD i 0 ∧ zs.getD i 0 ≤ 255
theorem isB_mem {zs : List Int} (h : IsB zs) : ∀ x ∈ zs, 0 ≤ x ∧ x ≤ 255 := by
  intro x hx
  obtain ⟨i, hi, rfl⟩ := List.getElem_of_mem hx
  have := h i
  rwa [List.getD_eq_getElem?_getD, List.getElem?_eq_getElem hi] at this
theorem isB_of_mem {zs : List Int} (h : ∀ x ∈ zs, 0 ≤ x ∧ x ≤ 255) : IsB zs := by
  intro i
  by_cases hi : i < zs.length
  · rw [List.getD_eq_getElem?_getD, List.getElem?_eq_getElem hi]; exact h _ (List.getElem_mem hi)
  · simp [List.getD_eq_getElem?_getD, List.getElem?_eq_none (Nat.le_of_not_lt hi)]
theorem isB_append {xs ys : List Int} (h : IsB xs) (k : IsB ys) : IsB (xs ++ ys) := isB_of_mem (by
  intro x hx
  rcases List.mem_append.1 hx with h' | h'
  · exact isB_mem h x h'
  · exact isB_mem k x h')
theorem isB_drop {zs : List Int} (h : IsB zs) (k : Nat) : IsB (zs.drop k) := isB_of_mem fun x hx => isB_mem h x (List.mem_of_mem_drop hx)
theorem isB_take {zs : List Int} (h : IsB zs) (k : Nat) : IsB (zs.take k) := isB_of_mem fun x hx => isB_mem h x (List.mem_of_mem_take hx)
end Go.Proofs.YteaepgbakcifkaaDoor
