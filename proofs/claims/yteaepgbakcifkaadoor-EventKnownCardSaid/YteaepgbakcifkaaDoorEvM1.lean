/- Events, plainly: which fields a kind has, what may be in them. -/
import Derived.Test.YteaepgbakcifkaaDoorStrs
import Derived.Test.YteaepgbakcifkaaDoorEncMath2
import Derived.Lib.SlTrimSet
import Derived.Laws.RangeString
set_option linter.unusedVariables false
set_option linter.unusedSimpArgs false
namespace Go.Proofs.YteaepgbakcifkaaDoor
open Go.RowKit
structure EV where
  k : Int
  r : Int
  t : Int
  y : Int
  n : Int
  nm : ByteArray
  ky : ByteArray
  dt : ByteArray
theorem EV.eq_iff (a b : EV) : a = b ↔ a.k = b.k ∧ a.r = b.r ∧ a.t = b.t ∧ a.y = b.y ∧ a.n = b.n ∧ a.nm = b.nm ∧ a.ky = b.ky ∧ a.dt = b.dt := by
  cases a; cases b; simp
/-- a kind's fields, by the program's letters -/
def flds (k : Int) : List UInt8 :=
  if k = 1 then [77, 68] else if k = 2 then [82, 77, 75] else if k = 3 ∨ k = 5 then [82, 84, 89] else if k = 4 then [82, 84, 89, 68] else if k = 6 ∨ k = 9 then [78] else if k = 7 then [82, 77] else if k = 8 then [82] else []
/-- the kinds -/
theorem kinds (k : Int) : k = 1 ∨ k = 2 ∨ k = 3 ∨ k = 4 ∨ k = 5 ∨ k = 6 ∨ k = 7 ∨ k = 8 ∨ k = 9 ∨ (k ≠ 1 ∧ k ≠ 2 ∧ k ≠ 3 ∧ k ≠ 4 ∧ k ≠ 5 ∧ k ≠ 6 ∧ k ≠ 7 ∧ k ≠ 8 ∧ k ≠ 9) := by omega
theorem flds_none {k : Int} (h : k ≠ 1 ∧ k ≠ 2 ∧ k ≠ 3 ∧ k ≠ 4 ∧ k ≠ 5 ∧ k ≠ 6 ∧ k ≠ 7 ∧ k ≠ 8 ∧ k ≠ 9) : flds k = [] := by
  unfold flds
  rw [if_neg (by omega), if_neg (by omega), if_neg (by omega), if_neg (by omega), if_neg (by omega), if_neg (by omega), if_neg (by omega)]
/-- the letters -/
def ltr (c : UInt8) : Prop := c = 82 ∨ c = 84 ∨ c = 89 ∨ c = 78 ∨ c = 77 ∨ c = 75 ∨ c = 68
theorem flds_ltr (k : Int) : ∀ c ∈ flds k, ltr c := by
  have h : ∀ l : List UInt8, l ∈ [[77, 68], [82, 77, 75], [82, 84, 89], [82, 84, 89, 68], [78], [82, 77], [82], []] → ∀ c ∈ l, ltr c := by unfold ltr; decide
  apply h
  unfold flds
  repeat' split
  all_goals simp
theorem flds_len (k : Int) : (flds k).length ≤ 4 := by
  unfold flds
  repeat' split
  all_goals simp
def alnum : List UInt8 := [97, 98, 99, 100, 101, 102, 103, 104, 105, 106, 107, 108, 109, 110, 111, 112, 113, 114, 115, 116, 117, 118, 119, 120, 121, 122, 48, 49, 50, 51, 52, 53, 54, 55, 56, 57]
def nameOk (s : ByteArray) : Bool := decide (0 < s.size) && decide (s.size ≤ 16) && s.data.toList.all (alnum.contains ·)
def setF (e x : EV) (c : UInt8) : EV :=
  if c = 82 then { x with r := e.r } else if c = 84 then { x with t := e.t } else if c = 89 then { x with y := e.y } else if c = 78 then { x with n := e.n } else if c = 77 then { x with nm := e.nm } else if c = 75 then { x with ky := e.ky } else if c = 68 then { x with dt := e.dt } else x
abbrev emp : ByteArray := ⟨#[]⟩
def kindE (k : Int) : EV := ⟨k, 0, 0, 0, 0, emp, emp, emp⟩
def onlyE (e : EV) (l : List UInt8) : EV := l.foldl (setF e) (kindE e.k)
def okF (e : EV) (c : Nat) : Bool :=
  if c = 82 then decide (1 ≤ e.r) && decide (e.r ≤ 64) else if c = 84 then decide (0 ≤ e.t) && decide (e.t ≤ 15) else if c = 89 then decide (1 ≤ e.y) && decide (e.y ≤ 9)
  else if c = 78 then decide (1 ≤ e.n) && decide (e.n ≤ if e.k = 9 then 1048575 else 1099511627776) else if c = 77 then nameOk e.nm else if c = 75 then decide ((e.ky.size : Int) ≤ 16)
  else if e.k = 1 then decide ((e.dt.size : Int) ≤ 900) else decide ((e.dt.size : Int) ≤ 64)
instance : DecidableEq EV := fun a b => decidable_of_iff _ (EV.eq_iff a b).symm
def goodE (e : EV) : Bool := decide (flds e.k ≠ []) && decide (onlyE e (flds e.k) = e) && (flds e.k).all fun c => okF e c.toNat
theorem trimS_nil (l cs : List UInt8) : Lib.trimS l cs = [] ↔ l.all (cs.contains ·) = true := by
  unfold Lib.trimS Lib.trimLeftS Lib.trimRightS
  constructor
  · intro h
    rw [List.all_eq_true]
    intro x hx
    have h1 : ∀ m : List UInt8, m.dropWhile (cs.contains ·) = [] → ∀ y ∈ m, cs.contains y = true := by
      intro m
      induction m with
      | nil => intro _ y hy; cases hy
      | cons a m ih =>
        intro hm y hy
        rw [List.dropWhile_cons] at hm
        split at hm
        · rename_i ha
          rcases List.mem_cons.1 hy with rfl | hy
          · exact ha
          · exact ih hm y hy
        · cases hm
    have h2 := h1 _ h
    -- what was dropped from the end is of the set; what is left too
    have h3 : l.reverse = l.reverse.takeWhile (cs.contains ·) ++ l.reverse.dropWhile (cs.contains ·) := (List.takeWhile_append_dropWhile ..).symm
    have hx' : x ∈ l.reverse := List.mem_reverse.2 hx
    rw [h3] at hx'
    rcases List.mem_append.1 hx' with hx' | hx'
    · have : ∀ m : List UInt8, ∀ y ∈ m.takeWhile (cs.contains ·), cs.contains y = true := by
        intro m
        induction m with
        | nil => intro y hy; cases hy
        | cons a m ih =>
          intro y hy
          rw [List.takeWhile_cons] at hy
          split at hy
          · rename_i ha
            rcases List.mem_cons.1 hy with rfl | hy
            · exact ha
            · exact ih y hy
          · cases hy
      exact this _ x hx'
    · exact h2 x (List.mem_reverse.2 hx')
  · intro h
    have h1 : ∀ m : List UInt8, (∀ y ∈ m, cs.contains y = true) → m.dropWhile (cs.contains ·) = [] := by
      intro m
      induction m with
      | nil => intro _; rfl
      | cons a m ih =>
        intro hm
        rw [List.dropWhile_cons, if_pos (hm a (List.mem_cons_self ..))]
        exact ih fun y hy => hm y (List.mem_cons_of_mem _ hy)
    rw [List.all_eq_true] at h
    rw [h1 l.reverse (fun y hy => h y (List.mem_reverse.1 hy))]
    rfl
end Go.Proofs.YteaepgbakcifkaaDoor
