/- Messages, cell by cell. -/
import Derived.Test.YtnnjflljlooifaaMsBase
set_option linter.unusedVariables false
set_option linter.unusedSimpArgs false
namespace Go.Proofs.Ytnnjflljlooifaa
open Go.RowKit
def mvs (L : List MV) : List Value := L.flatMap fun m => m.cs.toList
theorem mvs_len (L : List MV) : (mvs L).length = L.length * 9 := by induction L with | nil => rfl | cons x l ih => simp [mvs, MV.cs] at ih ⊢; omega
theorem mvs_at : ∀ (L : List MV) (i j : Nat) (m : MV), L[i]? = some m → j < 9 → (mvs L)[i * 9 + j]? = m.cs[j]?
  | [], i, j, m, h, _ => by cases h
  | y :: l, 0, j, m, h, hj => by
    obtain rfl : y = m := by simpa using h
    simp only [mvs, List.flatMap_cons, Nat.zero_mul, Nat.zero_add]
    rw [List.getElem?_append_left (by simp [MV.cs]; omega), Array.getElem?_toList]
  | y :: l, i + 1, j, m, h, hj => by
    have := mvs_at l i j m (by simpa using h) hj
    simp only [mvs, List.flatMap_cons] at this ⊢
    rw [List.getElem?_append_right (by simp [MV.cs]; omega)]
    rw [← this]
    congr 1
    simp [MV.cs]
    omega
theorem mvs_set : ∀ (L : List MV) (i j : Nat) (m m' : MV) (u : Value), L[i]? = some m → j < 9 → m'.cs = m.cs.setIfInBounds j u → (mvs L).set (i * 9 + j) u = mvs (L.set i m')
  | [], i, j, m, m', u, h, _, _ => by cases h
  | y :: l, 0, j, m, m', u, h, hj, hm => by
    obtain rfl : y = m := by simpa using h
    simp only [mvs, List.flatMap_cons, Nat.zero_mul, Nat.zero_add, List.set_cons_zero]
    rw [List.set_append_left _ _ (by simp [MV.cs]; omega), hm]
    simp
  | y :: l, i + 1, j, m, m', u, h, hj, hm => by
    have := mvs_set l i j m m' u (by simpa using h) hj hm
    simp only [mvs, List.flatMap_cons, List.set_cons_succ] at this ⊢
    rw [List.set_append_right _ _ (by simp [MV.cs]; omega), ← this]
    congr 2
    simp [MV.cs]
    omega
def mZ : MV := ⟨0, 0, 0, 0, 0, 0, none, 0, 0, none, 0, 0, 0⟩
theorem elemMs : Elem Try.prog 45 33 (.agg mZ.cs) 9 104 :=
  ⟨Try.underlying45, info_parts (by kernel_rfl), rfl, by omega⟩
end Go.Proofs.Ytnnjflljlooifaa
