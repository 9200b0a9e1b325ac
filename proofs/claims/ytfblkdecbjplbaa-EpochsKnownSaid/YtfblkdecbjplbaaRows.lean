/-
  No cell of these rows narrows 'for every input' (looked for: loops, veiled, ifaces, maps, wideKeys, modest, calm, conditions, laid).
  DERIVED. THE GIVEN ROWS OF THIS SEAT. 4 by the template 'for every input the law returns true; each argument reads behind the call as it read before'; 0 by the template 'total and deterministic' (their statements: YtfblkdecbjplbaaTotals.lean).
  GIVEN WITH THE SEED: the statements are not yours to turn. If you find one false, say at which input.
  Laid BY PROGRAM, IN A SANDBOX (cutbox-rows.mjs): the forced cells as the released guide's own fill.sh prints them over the translation 8843f790eb2e9f30… (all of the seat's roots in one cut). By AI agents, Wed Nov 11 2026. No macro, syntax, notation, axiom, sorry.
-/
import Derived.Test.YtfblkdecbjplbaaChecked
import GoSem.Claim
import GoSem.ClaimJoined
import GoSem.ClaimMapViews
import Derived.JoinedTies
import Derived.KernelRfl
namespace Go.Proofs.Ytfblkdecbjplbaa
/- THE CELL 'sum', in the pinned program and in every row, IS THE sha256 OF THE DUMP (.gsa) THAT YtfblkdecbjplbaaProg.lean LOADS. Nothing in Lean hashes anything: it is a label: what it is worth is what the hold of that sum in a sandbox is worth. -/
noncomputable def Try.pinned : Pinned := { name := "ytfblkdecbjplbaa", sum := "8843f790eb2e9f306e04a446bedb706b1b5660f268e9e741875aeed37f28ca63", checked := Try.checked }
namespace Rows
def none {H : Type} : Left H := { results := [], args := [] }

/-- 'outriderlaw8.EpochsMeets': WHATEVER THE INPUT: true; the input reads as it did. -/
def epochsMeetsSpec : ChangeSpec := { name := "epochsMeets", fn := fun _ => fun
  | [d1, d2, d3] => { results := [.lit (.bool true)], args := [d1, d2, d3] }
  | _ => none }
def epochsMeetsRow : OpenClaim := { program := "ytfblkdecbjplbaa", sum := "8843f790eb2e9f306e04a446bedb706b1b5660f268e9e741875aeed37f28ca63", func := "outrider/outriderlaw8.EpochsMeets", spec := "epochsMeets", apart := false }
def EpochsMeetsSaid : Prop := epochsMeetsRow.holds Try.pinned (OpenSpec.ofChange epochsMeetsSpec)

/-- ITS FALSE NEIGHBOUR: 'it returns false'. Refute it at one input. -/
def epochsMeetsWrong : ChangeSpec := { name := "epochsMeets", fn := fun _ => fun
  | [d1, d2, d3] => { results := [.lit (.bool false)], args := [d1, d2, d3] }
  | _ => none }
def EpochsMeetsWrongFalsely : Prop := epochsMeetsRow.holds Try.pinned (OpenSpec.ofChange epochsMeetsWrong)

/-- 'outriderlaw8.EpochsBoth': WHATEVER THE INPUT: true; the input reads as it did. -/
def epochsBothSpec : ChangeSpec := { name := "epochsBoth", fn := fun _ => fun
  | [d1, d2] => { results := [.lit (.bool true)], args := [d1, d2] }
  | _ => none }
def epochsBothRow : OpenClaim := { program := "ytfblkdecbjplbaa", sum := "8843f790eb2e9f306e04a446bedb706b1b5660f268e9e741875aeed37f28ca63", func := "outrider/outriderlaw8.EpochsBoth", spec := "epochsBoth", apart := false }
def EpochsBothSaid : Prop := epochsBothRow.holds Try.pinned (OpenSpec.ofChange epochsBothSpec)

/-- ITS FALSE NEIGHBOUR: 'it returns false'. Refute it at one input. -/
def epochsBothWrong : ChangeSpec := { name := "epochsBoth", fn := fun _ => fun
  | [d1, d2] => { results := [.lit (.bool false)], args := [d1, d2] }
  | _ => none }
def EpochsBothWrongFalsely : Prop := epochsBothRow.holds Try.pinned (OpenSpec.ofChange epochsBothWrong)

/-- 'outriderlaw8.EpochsTells': WHATEVER THE INPUT: true; the input reads as it did. -/
def epochsTellsSpec : ChangeSpec := { name := "epochsTells", fn := fun _ => fun
  | [d1, d2] => { results := [.lit (.bool true)], args := [d1, d2] }
  | _ => none }
def epochsTellsRow : OpenClaim := { program := "ytfblkdecbjplbaa", sum := "8843f790eb2e9f306e04a446bedb706b1b5660f268e9e741875aeed37f28ca63", func := "outrider/outriderlaw8.EpochsTells", spec := "epochsTells", unfollowed := true, recurses := true, apart := false }
def EpochsTellsSaid : Prop := epochsTellsRow.holds Try.pinned (OpenSpec.ofChange epochsTellsSpec)

/-- ITS FALSE NEIGHBOUR: 'it returns false'. Refute it at one input. -/
def epochsTellsWrong : ChangeSpec := { name := "epochsTells", fn := fun _ => fun
  | [d1, d2] => { results := [.lit (.bool false)], args := [d1, d2] }
  | _ => none }
def EpochsTellsWrongFalsely : Prop := epochsTellsRow.holds Try.pinned (OpenSpec.ofChange epochsTellsWrong)

/-- 'outriderlaw8.EpochsKnown': WHATEVER THE INPUT: true; the input reads as it did. -/
def epochsKnownSpec : ChangeSpec := { name := "epochsKnown", fn := fun _ => fun
  | [] => { results := [.lit (.bool true)], args := [] }
  | _ => none }
def epochsKnownRow : OpenClaim := { program := "ytfblkdecbjplbaa", sum := "8843f790eb2e9f306e04a446bedb706b1b5660f268e9e741875aeed37f28ca63", func := "outrider/outriderlaw8.EpochsKnown", spec := "epochsKnown", unfollowed := true, recurses := true, apart := false }
def EpochsKnownSaid : Prop := epochsKnownRow.holds Try.pinned (OpenSpec.ofChange epochsKnownSpec)

/-- ITS FALSE NEIGHBOUR: 'it returns false'. Refute it at one input. -/
def epochsKnownWrong : ChangeSpec := { name := "epochsKnown", fn := fun _ => fun
  | [] => { results := [.lit (.bool false)], args := [] }
  | _ => none }
def EpochsKnownWrongFalsely : Prop := epochsKnownRow.holds Try.pinned (OpenSpec.ofChange epochsKnownWrong)

/- THE SECOND FORM. 'bulk': how many values and letters a reading holds, each counted each time it is reached (what is shared counts as often as it is met; a slice's spare places count too). A statement '..UptoSaid' is the law's where the arguments, and the package variables that the reading takes, are together of bulk at most 1048576: NARROWER than '..Said'. Prove '..Said' where nothing that the law and all that it calls make is longer than what came in: it says more and counts as full. Else prove '..UptoSaid'. A law counts once. -/
mutual
def uptoBulk {H : Type} : DataW H → Nat
  | .lit (.string bytes) => bytes.length + 1
  | .lit _ => 1
  | .nil => 1
  | .ptr d => uptoBulk d + 1
  | .slice elems spare => uptoBulkAll elems + uptoBulkAll spare + 1
  | .agg parts => uptoBulkAll parts + 1
  | .iface _ d => uptoBulk d + 1
  | .map entries => uptoBulkEntries entries + 1
  | .held _ => 1
def uptoBulkAll {H : Type} : List (DataW H) → Nat
  | [] => 0
  | d :: r => uptoBulk d + uptoBulkAll r
def uptoBulkEntries {H : Type} : List (Lit × DataW H) → Nat
  | [] => 0
  | x :: r => uptoBulkEntry x + uptoBulkEntries r
def uptoBulkEntry {H : Type} : Lit × DataW H → Nat
  | (.string bytes, d) => bytes.length + uptoBulk d + 1
  | (_, d) => uptoBulk d + 1
 end
def uptoSmall : (H : Type) → List (DataW H) → Bool := fun _ ds => decide (uptoBulkAll ds ≤ 1048576)
def OpenSpec.upto (s : _root_.Go.ChangeSpec) : _root_.Go.OpenSpec := { _root_.Go.OpenSpec.ofChange s with cond := some uptoSmall }

/-- 'outriderlaw8.EpochsMeets', WHERE WHAT IT READS IS OF BULK AT MOST 1048576: true; the input reads as it did. -/
def epochsMeetsUptoRow : OpenClaim := { program := "ytfblkdecbjplbaa", sum := "8843f790eb2e9f306e04a446bedb706b1b5660f268e9e741875aeed37f28ca63", func := "outrider/outriderlaw8.EpochsMeets", spec := "epochsMeets", apart := false, narrowed := true }
def EpochsMeetsUptoSaid : Prop := epochsMeetsUptoRow.holds Try.pinned (OpenSpec.upto epochsMeetsSpec)

/-- 'outriderlaw8.EpochsBoth', WHERE WHAT IT READS IS OF BULK AT MOST 1048576: true; the input reads as it did. -/
def epochsBothUptoRow : OpenClaim := { program := "ytfblkdecbjplbaa", sum := "8843f790eb2e9f306e04a446bedb706b1b5660f268e9e741875aeed37f28ca63", func := "outrider/outriderlaw8.EpochsBoth", spec := "epochsBoth", apart := false, narrowed := true }
def EpochsBothUptoSaid : Prop := epochsBothUptoRow.holds Try.pinned (OpenSpec.upto epochsBothSpec)

/-- 'outriderlaw8.EpochsTells', WHERE WHAT IT READS IS OF BULK AT MOST 1048576: true; the input reads as it did. -/
def epochsTellsUptoRow : OpenClaim := { program := "ytfblkdecbjplbaa", sum := "8843f790eb2e9f306e04a446bedb706b1b5660f268e9e741875aeed37f28ca63", func := "outrider/outriderlaw8.EpochsTells", spec := "epochsTells", unfollowed := true, recurses := true, apart := false, narrowed := true }
def EpochsTellsUptoSaid : Prop := epochsTellsUptoRow.holds Try.pinned (OpenSpec.upto epochsTellsSpec)

/-- 'outriderlaw8.EpochsKnown', WHERE WHAT IT READS IS OF BULK AT MOST 1048576: true; the input reads as it did. -/
def epochsKnownUptoRow : OpenClaim := { program := "ytfblkdecbjplbaa", sum := "8843f790eb2e9f306e04a446bedb706b1b5660f268e9e741875aeed37f28ca63", func := "outrider/outriderlaw8.EpochsKnown", spec := "epochsKnown", unfollowed := true, recurses := true, apart := false, narrowed := true }
def EpochsKnownUptoSaid : Prop := epochsKnownUptoRow.holds Try.pinned (OpenSpec.upto epochsKnownSpec)

end Rows
end Go.Proofs.Ytfblkdecbjplbaa
