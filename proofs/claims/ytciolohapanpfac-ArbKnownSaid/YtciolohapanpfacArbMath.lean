/- The plain answer of arb: what it must become. No program is in sight. -/
import Derived.Test.YtciolohapanpfacMem
set_option linter.unusedVariables false
set_option linter.unusedSimpArgs false
namespace Go.Proofs.Ytciolohapanpfac
open Go.RowKit
/-- who leads -/
structure AS where
  e : Int
  h : Int
  s : Bool
  f : Int
deriving DecidableEq
def AS.zero : AS := ⟨0, 0, false, 0⟩
def AS.cs (x : AS) : List Value := [.int .i64 x.e, .int .i64 x.h, .bool x.s, .int .i64 x.f]
def AS.v (x : AS) : Value := .agg #[.int .i64 x.e, .int .i64 x.h, .bool x.s, .int .i64 x.f]
def isNode (who : Int) : Bool := decide (who = 0 ∨ who = 1)
def leadF (x : AS) (who : Int) : AS × Bool :=
  if (who ≠ 0 ∧ who ≠ 1) ∨ (x.s = true ∧ who ≠ x.h) ∨ x.e < 0 ∨ 1048575 ≤ x.e then (AS.zero, false) else (⟨x.e + 1, who, x.s, x.f⟩, true)
def turnF (x : AS) (who ep fl : Int) (solo : Bool) : AS × Bool :=
  if (who ≠ 0 ∧ who ≠ 1) ∨ who ≠ x.h ∨ ep ≠ x.e ∨ x.s = solo ∨ fl < x.f then (AS.zero, false) else (⟨x.e, x.h, solo, fl⟩, true)
def pairV (r : AS × Bool) : Value := .tuple #[r.1.v, .bool r.2]
theorem pairV_no : pairV (AS.zero, false) = .tuple #[.agg #[.int .i64 0, .int .i64 0, .bool false, .int .i64 0], .bool false] := rfl
theorem lead_cases (x : AS) (who : Int) :
    ((who ≠ 0 ∧ who ≠ 1) ∧ leadF x who = (AS.zero, false)) ∨ ((who = 0 ∨ who = 1) ∧ x.s = true ∧ who ≠ x.h ∧ leadF x who = (AS.zero, false)) ∨
    ((who = 0 ∨ who = 1) ∧ (x.s = false ∨ who = x.h) ∧ x.e < 0 ∧ leadF x who = (AS.zero, false)) ∨
    ((who = 0 ∨ who = 1) ∧ (x.s = false ∨ who = x.h) ∧ 1048575 ≤ x.e ∧ leadF x who = (AS.zero, false)) ∨
    ((who = 0 ∨ who = 1) ∧ (x.s = false ∨ who = x.h) ∧ 0 ≤ x.e ∧ x.e < 1048575 ∧ leadF x who = (⟨x.e + 1, who, x.s, x.f⟩, true)) := by
  by_cases h1 : who = 0 ∨ who = 1
  · by_cases h2 : x.s = true ∧ who ≠ x.h
    · exact .inr (.inl ⟨h1, h2.1, h2.2, if_pos (.inr (.inl h2))⟩)
    · have h2' : x.s = false ∨ who = x.h := by
        rcases Bool.eq_false_or_eq_true x.s with h | h
        · exact .inr (Classical.byContradiction fun hn => h2 ⟨h, hn⟩)
        · exact .inl h
      by_cases h3 : x.e < 0
      · exact .inr (.inr (.inl ⟨h1, h2', h3, if_pos (.inr (.inr (.inl h3)))⟩))
      · by_cases h4 : 1048575 ≤ x.e
        · exact .inr (.inr (.inr (.inl ⟨h1, h2', h4, if_pos (.inr (.inr (.inr h4)))⟩)))
        · refine .inr (.inr (.inr (.inr ⟨h1, h2', by omega, by omega, if_neg ?_⟩)))
          rintro (h | h | h | h)
          · omega
          · exact h2 h
          · exact h3 h
          · exact h4 h
  · exact .inl ⟨by omega, if_pos (.inl (by omega))⟩
theorem turn_cases (x : AS) (who ep fl : Int) (solo : Bool) :
    ((who ≠ 0 ∧ who ≠ 1) ∧ turnF x who ep fl solo = (AS.zero, false)) ∨ ((who = 0 ∨ who = 1) ∧ who ≠ x.h ∧ turnF x who ep fl solo = (AS.zero, false)) ∨
    ((who = 0 ∨ who = 1) ∧ who = x.h ∧ ep ≠ x.e ∧ turnF x who ep fl solo = (AS.zero, false)) ∨
    ((who = 0 ∨ who = 1) ∧ who = x.h ∧ ep = x.e ∧ x.s = solo ∧ turnF x who ep fl solo = (AS.zero, false)) ∨
    ((who = 0 ∨ who = 1) ∧ who = x.h ∧ ep = x.e ∧ x.s = (!solo) ∧ fl < x.f ∧ turnF x who ep fl solo = (AS.zero, false)) ∨
    ((who = 0 ∨ who = 1) ∧ who = x.h ∧ ep = x.e ∧ x.s = (!solo) ∧ x.f ≤ fl ∧ turnF x who ep fl solo = (⟨x.e, x.h, solo, fl⟩, true)) := by
  by_cases h1 : who = 0 ∨ who = 1
  · by_cases h2 : who = x.h
    · by_cases h3 : ep = x.e
      · by_cases h4 : x.s = solo
        · exact .inr (.inr (.inr (.inl ⟨h1, h2, h3, h4, if_pos (.inr (.inr (.inr (.inl h4))))⟩)))
        · have h4' : x.s = (!solo) := by revert h4; cases x.s <;> cases solo <;> simp
          by_cases h5 : fl < x.f
          · exact .inr (.inr (.inr (.inr (.inl ⟨h1, h2, h3, h4', h5, if_pos (.inr (.inr (.inr (.inr h5))))⟩))))
          · refine .inr (.inr (.inr (.inr (.inr ⟨h1, h2, h3, h4', by omega, if_neg ?_⟩))))
            rintro (h | h | h | h | h)
            · omega
            · exact h h2
            · exact h h3
            · exact h4 h
            · exact h5 h
      · exact .inr (.inr (.inl ⟨h1, h2, h3, if_pos (.inr (.inr (.inl h3)))⟩))
    · exact .inr (.inl ⟨h1, h2, if_pos (.inr (.inl h2))⟩)
  · exact .inl ⟨by omega, if_pos (.inl (by omega))⟩
end Go.Proofs.Ytciolohapanpfac
