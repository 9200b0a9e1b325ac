/- Events, plainly: bounds, bytes. -/
import Derived.Test.YteaepgbakcifkaaDoorEvM1
set_option linter.unusedVariables false
set_option linter.unusedSimpArgs false
namespace Go.Proofs.YteaepgbakcifkaaDoor
open Go.RowKit
theorem goodE_iff (e : EV) : goodE e = true ↔ flds e.k ≠ [] ∧ onlyE e (flds e.k) = e ∧ ∀ c ∈ flds e.k, okF e c.toNat = true := by
  unfold goodE
  rw [Bool.and_eq_true, Bool.and_eq_true, decide_eq_true_iff, decide_eq_true_iff, List.all_eq_true]
  exact ⟨fun ⟨⟨a, b⟩, c⟩ => ⟨a, b, c⟩, fun ⟨a, b, c⟩ => ⟨⟨a, b⟩, c⟩⟩
theorem flds_kind {k : Int} (h : flds k ≠ []) : 1 ≤ k ∧ k ≤ 9 := by
  rcases kinds k with rfl | rfl | rfl | rfl | rfl | rfl | rfl | rfl | rfl | h2
  case inr.inr.inr.inr.inr.inr.inr.inr.inr => exact absurd (flds_none h2) h
  all_goals omega
theorem okF_r {e : EV} (h : okF e 82 = true) : 1 ≤ e.r ∧ e.r ≤ 64 := by
  rw [show okF e 82 = (decide (1 ≤ e.r) && decide (e.r ≤ 64)) from rfl] at h
  simpa using h
theorem okF_t {e : EV} (h : okF e 84 = true) : 0 ≤ e.t ∧ e.t ≤ 15 := by
  rw [show okF e 84 = (decide (0 ≤ e.t) && decide (e.t ≤ 15)) from rfl] at h
  simpa using h
theorem okF_y {e : EV} (h : okF e 89 = true) : 1 ≤ e.y ∧ e.y ≤ 9 := by
  rw [show okF e 89 = (decide (1 ≤ e.y) && decide (e.y ≤ 9)) from rfl] at h
  simpa using h
theorem okF_n {e : EV} (h : okF e 78 = true) : 1 ≤ e.n ∧ e.n ≤ 1099511627776 := by
  rw [show okF e 78 = (decide (1 ≤ e.n) && decide (e.n ≤ if e.k = 9 then 1048575 else 1099511627776)) from rfl] at h
  simp only [Bool.and_eq_true, decide_eq_true_iff] at h
  obtain ⟨h1, h2⟩ := h
  split at h2 <;> omega
theorem okF_nm {e : EV} (h : okF e 77 = true) : 0 < e.nm.size ∧ e.nm.size ≤ 16 := by
  rw [show okF e 77 = nameOk e.nm from rfl] at h
  unfold nameOk at h
  simp only [Bool.and_eq_true, decide_eq_true_iff] at h
  exact h.1
theorem okF_ky {e : EV} (h : okF e 75 = true) : e.ky.size ≤ 16 := by
  rw [show okF e 75 = decide ((e.ky.size : Int) ≤ 16) from rfl] at h
  simp only [decide_eq_true_iff] at h
  omega
theorem okF_dt {e : EV} (h : okF e 68 = true) : e.dt.size ≤ 900 := by
  rw [show okF e 68 = (if e.k = 1 then decide ((e.dt.size : Int) ≤ 900) else decide ((e.dt.size : Int) ≤ 64)) from rfl] at h
  split at h <;> (simp only [decide_eq_true_iff] at h; omega)
/-- a field's bytes; an event's -/
def encFld (e : EV) (c : UInt8) : List Int :=
  if c = 82 then encU e.r else if c = 84 then encU e.t else if c = 89 then encU e.y else if c = 78 then encU e.n else if c = 77 then encS (ofStr e.nm) else if c = 75 then encS (ofStr e.ky) else if c = 68 then encS (ofStr e.dt) else []
def encL (e : EV) (l : List UInt8) : List Int := encU e.k ++ l.flatMap (encFld e)
def encEv (e : EV) : List Int := encL e (flds e.k)
theorem encL_succ (e : EV) (l : List UInt8) (i : Nat) (h : i < l.length) : encL e (l.take (i + 1)) = encL e (l.take i) ++ encFld e (l[i]'h) := by
  unfold encL
  rw [List.take_succ_eq_append_getElem h, List.flatMap_append, List.append_assoc]
  simp
end Go.Proofs.YteaepgbakcifkaaDoor
