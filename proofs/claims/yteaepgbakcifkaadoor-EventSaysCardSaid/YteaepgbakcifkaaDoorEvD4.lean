/- The document's GoodEvent tells what the program's Good tells. -/
import Derived.Test.YteaepgbakcifkaaDoorEvD3
set_option linter.unusedVariables false
set_option linter.unusedSimpArgs false
namespace Go.Proofs.YteaepgbakcifkaaDoor
open Go.RowKit
theorem ba_empty (s : ByteArray) : s.toList.isEmpty = true ↔ s = ⟨#[]⟩ := by
  rw [toList_data]
  constructor
  · intro h
    have h : s.data.toList = [] := by simpa using h
    exact ByteArray.ext (by simpa using h)
  · intro h; rw [h]; rfl
theorem goodD_eq (e : EV) : goodD e = goodE e := by
  obtain ⟨k, r, t, y, n, nm, ky, dt⟩ := e
  have hz : ∀ s : ByteArray, s = ⟨#[]⟩ → s.size = 0 := fun s h => by rw [h]; rfl
  have hky := hz ky
  have hdt := hz dt
  have hsym : ∀ s : ByteArray, (⟨#[]⟩ : ByteArray) = s ↔ s = ⟨#[]⟩ := fun s => eq_comm
  have hz0 : ∀ x : Int, (0 : Int) = x ↔ x = 0 := fun x => eq_comm
  have k0 := ba_empty nm
  have k1 := ba_empty ky
  have k2 := ba_empty dt
  rw [Bool.eq_iff_iff, goodE_iff]
  rcases kinds k with rfl | rfl | rfl | rfl | rfl | rfl | rfl | rfl | rfl | h
  case inr.inr.inr.inr.inr.inr.inr.inr.inr =>
    have : ¬ (1 ≤ k ∧ k ≤ 9) := by omega
    constructor
    · intro h2
      exfalso
      unfold goodD at h2
      simp only [Bool.and_eq_true, decide_eq_true_iff] at h2
      omega
    · rintro ⟨h2, -⟩
      exact absurd (flds_none h) h2
  all_goals
    have f82 := fun k => (show okF (⟨k, r, t, y, n, nm, ky, dt⟩ : EV) 82 = (decide (1 ≤ r) && decide (r ≤ 64)) from rfl)
    have f84 := fun k => (show okF (⟨k, r, t, y, n, nm, ky, dt⟩ : EV) 84 = (decide (0 ≤ t) && decide (t ≤ 15)) from rfl)
    have f89 := fun k => (show okF (⟨k, r, t, y, n, nm, ky, dt⟩ : EV) 89 = (decide (1 ≤ y) && decide (y ≤ 9)) from rfl)
    have f78 := fun k => (show okF (⟨k, r, t, y, n, nm, ky, dt⟩ : EV) 78 = (decide (1 ≤ n) && decide (n ≤ if k = 9 then 1048575 else 1099511627776)) from rfl)
    have f77 := fun k => (show okF (⟨k, r, t, y, n, nm, ky, dt⟩ : EV) 77 = nameOk nm from rfl)
    have f75 := fun k => (show okF (⟨k, r, t, y, n, nm, ky, dt⟩ : EV) 75 = decide ((ky.size : Int) ≤ 16) from rfl)
    have f68 := fun k => (show okF (⟨k, r, t, y, n, nm, ky, dt⟩ : EV) 68 = (if k = 1 then decide ((dt.size : Int) ≤ 900) else decide ((dt.size : Int) ≤ 64)) from rfl)
    have g1 : ((dt.size : Int) ≤ 900 ∨ dt = ⟨#[]⟩) ↔ (dt.size : Int) ≤ 900 := ⟨fun h => by rcases h with h | h; exact h; rw [hdt h]; omega, .inl⟩
    have g2 : ((dt.size : Int) ≤ 64 ∨ dt = ⟨#[]⟩) ↔ (dt.size : Int) ≤ 64 := ⟨fun h => by rcases h with h | h; exact h; rw [hdt h]; omega, .inl⟩
    have g3 : ((ky.size : Int) ≤ 16 ∨ ky = ⟨#[]⟩) ↔ (ky.size : Int) ≤ 16 := ⟨fun h => by rcases h with h | h; exact h; rw [hky h]; omega, .inl⟩
    simp [goodD, hasB, dfl, flds, onlyE, setF, kindE, wB, topK, mostK, EV.eq_iff, emp, hsym, hz0, k0, k1, k2, f82, f84, f89, f78, f77, f75, f68, g1, g2, g3]
    clear hz hky hdt hsym hz0 k0 k1 k2 f82 f84 f89 f78 f77 f75 f68 g1 g2 g3
    try grind
end Go.Proofs.YteaepgbakcifkaaDoor
