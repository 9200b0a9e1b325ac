/- The wheel's map. -/
import Derived.Test.YtneehfngphpccaaKeyMap
set_option linter.unusedVariables false
set_option linter.unusedSimpArgs false
namespace Go.Proofs.Ytneehfngphpccaa
open Go.RowKit
theorem eqKey (a b c d : Int) (w : World) : (Op.equal 30 (kv a b) (kv c d)).run Try.prog w = .ok (decide (a = c ∧ b = d)) w := by
  have hS : Try.prog.underlying 30 = some (.struct (Try.prog.fieldsOf 30)) := by kernel_rfl
  have hp : Try.prog.stoodInHeld 30 = false := by kernel_rfl
  unfold Op.equal kv
  rw [show Op.maxDepth = 9999 + 1 from rfl, run_equalIn_agg w 9999 30 _ _ hS hp]
  simp only [Program.fieldsOf, Try.underlying30]
  by_cases h1 : a = c
  · by_cases h2 : b = d
    · subst h1 h2
      rw [decide_eq_true ⟨rfl, rfl⟩]
      go_simp
    · have h3 : (b == d) = false := by simp [h2]
      rw [decide_eq_false (fun h => h2 h.2)]
      subst h1
      go_simp
  · have h3 : (a == c) = false := by simp [h1]
    rw [decide_eq_false (fun h => h1 h.1)]
    go_simp
theorem keyM : KeyMap Try.prog 58 30 2 (.int .i64 0) where
  ht := Try.underlying58
  heq := fun W a b c d => eqKey a b c d W
  hchk := fun W em a b => by kernel_rfl
  hku := ⟨_, Try.underlying30, fun a b c d => rfl⟩
  hz := fun W => by kernel_rfl
end Go.Proofs.Ytneehfngphpccaa
