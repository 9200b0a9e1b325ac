/- Graphs: the values that GraphKnown asks for. -/
import Derived.Test.YtboohafebkkdbaaGr11
set_option linter.unusedVariables false
set_option linter.unusedSimpArgs false
namespace Go.Proofs.Ytboohafebkkdbaa
def gA : List Ed := [(4, 3), (3, 4), (0, 1), (1, 2), (2, 0), (2, 3)]
def gB : List Ed := [(3, 1), (1, 3), (2, 0), (0, 2)]
theorem gA_good : goodG 5 gA = true := by decide +kernel
theorem gB_good : goodG 4 gB = true := by decide +kernel
theorem gE_good : goodG 0 [] = true := by decide +kernel
theorem gA_cycle : cycleL 5 gA = [3, 4] := by decide +kernel
theorem gB_cycle : cycleL 4 gB = [0, 2] := by decide +kernel
theorem gA_ahead : besL 5 gA 3 1 = [2, 4] := by decide +kernel
theorem gA_behind : besL 5 gA 2 0 = [0, 3] := by decide +kernel
theorem gA_reach0 : reachL 5 gA 0 = [0, 1, 2, 3, 4] := by decide +kernel
theorem gA_reach3 : reachL 5 gA 3 = [3, 4] := by decide +kernel
theorem gA_ahead5 : besL 5 gA 5 1 = [] := by decide +kernel
theorem gA_short : (shortL 5 gA).length = 6 := by decide +kernel
theorem t3_cycle : cycleL 3 [(0, 1), (1, 2), (0, 2)] = [] := by decide +kernel
theorem bad_good : goodG (-1) [] = false ∧ goodG 17 [] = false ∧ goodG 2 [(0, 2)] = false ∧ goodG 2 [(1, 1)] = false ∧ goodG 2 [(0, 1), (0, 1)] = false ∧ goodG 2 [(-1, 1)] = false := by decide +kernel
theorem bad_cycle : cycleL (-1) [] = [] ∧ cycleL 17 [] = [] ∧ cycleL 2 [(0, 2)] = [] ∧ cycleL 2 [(1, 1)] = [] ∧ cycleL 2 [(0, 1), (0, 1)] = [] ∧ cycleL 2 [(-1, 1)] = [] := by decide +kernel
theorem bad_ahead : besL (-1) [] 1 1 = [] ∧ besL 17 [] 1 1 = [] ∧ besL 2 [(0, 2)] 1 1 = [] ∧ besL 2 [(1, 1)] 1 1 = [] ∧ besL 2 [(0, 1), (0, 1)] 1 1 = [] ∧ besL 2 [(-1, 1)] 1 1 = [] := by decide +kernel
theorem bad_reach : reachL (-1) [] 0 = [] ∧ reachL 17 [] 0 = [] ∧ reachL 2 [(0, 2)] 0 = [] ∧ reachL 2 [(1, 1)] 0 = [] ∧ reachL 2 [(0, 1), (0, 1)] 0 = [] ∧ reachL 2 [(-1, 1)] 0 = [] := by decide +kernel
end Go.Proofs.Ytboohafebkkdbaa
