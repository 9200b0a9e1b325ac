/- The document's number of a text. -/
import Derived.Test.YtdiajdbjlhfkpaaDoorStRef
import Derived.Test.YtdiajdbjlhfkpaaDoorStParse
set_option linter.unusedVariables false
set_option linter.unusedSimpArgs false
namespace Go.Proofs.YtdiajdbjlhfkpaaDoor
open Go.RowKit
/-- what is read of k bytes -/
def numP : List UInt8 → Nat → Option Nat
  | [], n => some n
  | b :: l, n => if b.toNat < 48 ∨ 57 < b.toNat then none else numP l (10 * n + (b.toNat - 48))
theorem numP_dec (l : List UInt8) : ∀ n, numP l n = Lib.decFrom n l := by
  induction l with
  | nil => intro n; rfl
  | cons b l ih =>
    intro n
    show (if b.toNat < 48 ∨ 57 < b.toNat then none else numP l (10 * n + (b.toNat - 48))) = _
    unfold Lib.decFrom Lib.digitVal
    by_cases h : b.toNat < 48 ∨ 57 < b.toNat
    · rw [if_pos h, if_neg (by omega)]
    · rw [if_neg h, if_pos (by omega)]
      show _ = Lib.decFrom (n * 10 + (b.toNat - 48)) l
      rw [← ih, Nat.mul_comm]
end Go.Proofs.YtdiajdbjlhfkpaaDoor
