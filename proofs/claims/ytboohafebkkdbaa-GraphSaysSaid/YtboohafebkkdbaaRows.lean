/-
  No cell of these rows narrows 'for every input' (looked for: loops, veiled, ifaces, maps, wideKeys, modest, calm, conditions, laid).
  DERIVED. THE GIVEN ROWS OF THIS SEAT. 5 by the template 'for every input the law returns true; each argument reads behind the call as it read before'; 0 by the template 'total and deterministic' (their statements: YtboohafebkkdbaaTotals.lean).
  GIVEN WITH THE SEED: the statements are not yours to turn. If you find one false, say at which input.
  Laid BY PROGRAM, IN A SANDBOX (cutbox-rows.mjs): the forced cells as the released guide's own fill.sh prints them over the translation b59a96b92a20fe10… (all of the seat's roots in one cut). By AI agents, Wed Nov 11 2026. No macro, syntax, notation, axiom, sorry.
-/
import Derived.Test.YtboohafebkkdbaaChecked
import GoSem.Claim
import GoSem.ClaimJoined
import GoSem.ClaimMapViews
import Derived.JoinedTies
import Derived.KernelRfl
namespace Go.Proofs.Ytboohafebkkdbaa
/- THE CELL 'sum', in the pinned program and in every row, IS THE sha256 OF THE DUMP (.gsa) THAT YtboohafebkkdbaaProg.lean LOADS. Nothing in Lean hashes anything: it is a label: what it is worth is what the hold of that sum in a sandbox is worth. -/
noncomputable def Try.pinned : Pinned := { name := "ytboohafebkkdbaa", sum := "b59a96b92a20fe10818635cd6c8d6556ec7fac7f3602ce5ad7e4fe4e6dc6bfbd", checked := Try.checked }
namespace Rows
def none {H : Type} : Left H := { results := [], args := [] }

/-- 'outriderlaw10.GraphShort': WHATEVER THE INPUT: true; the input reads as it did. -/
def graphShortSpec : ChangeSpec := { name := "graphShort", fn := fun _ => fun
  | [d] => { results := [.lit (.bool true)], args := [d] }
  | _ => none }
def graphShortRow : OpenClaim := { program := "ytboohafebkkdbaa", sum := "b59a96b92a20fe10818635cd6c8d6556ec7fac7f3602ce5ad7e4fe4e6dc6bfbd", func := "outrider/outriderlaw10.GraphShort", spec := "graphShort", unfollowed := true, recurses := true, plainKeys := false, apart := false }
def GraphShortSaid : Prop := graphShortRow.holds Try.pinned (OpenSpec.ofChange graphShortSpec)

/-- ITS FALSE NEIGHBOUR: 'it returns false'. Refute it at one input. -/
def graphShortWrong : ChangeSpec := { name := "graphShort", fn := fun _ => fun
  | [d] => { results := [.lit (.bool false)], args := [d] }
  | _ => none }
def GraphShortWrongFalsely : Prop := graphShortRow.holds Try.pinned (OpenSpec.ofChange graphShortWrong)

/-- 'outriderlaw10.GraphThrough': WHATEVER THE INPUT: true; the input reads as it did. -/
def graphThroughSpec : ChangeSpec := { name := "graphThrough", fn := fun _ => fun
  | [d1, d2] => { results := [.lit (.bool true)], args := [d1, d2] }
  | _ => none }
def graphThroughRow : OpenClaim := { program := "ytboohafebkkdbaa", sum := "b59a96b92a20fe10818635cd6c8d6556ec7fac7f3602ce5ad7e4fe4e6dc6bfbd", func := "outrider/outriderlaw10.GraphThrough", spec := "graphThrough", unfollowed := true, recurses := true, plainKeys := false, apart := false }
def GraphThroughSaid : Prop := graphThroughRow.holds Try.pinned (OpenSpec.ofChange graphThroughSpec)

/-- ITS FALSE NEIGHBOUR: 'it returns false'. Refute it at one input. -/
def graphThroughWrong : ChangeSpec := { name := "graphThrough", fn := fun _ => fun
  | [d1, d2] => { results := [.lit (.bool false)], args := [d1, d2] }
  | _ => none }
def GraphThroughWrongFalsely : Prop := graphThroughRow.holds Try.pinned (OpenSpec.ofChange graphThroughWrong)

/-- 'outriderlaw10.GraphKnown': WHATEVER THE INPUT: true; the input reads as it did. -/
def graphKnownSpec : ChangeSpec := { name := "graphKnown", fn := fun _ => fun
  | [] => { results := [.lit (.bool true)], args := [] }
  | _ => none }
def graphKnownRow : OpenClaim := { program := "ytboohafebkkdbaa", sum := "b59a96b92a20fe10818635cd6c8d6556ec7fac7f3602ce5ad7e4fe4e6dc6bfbd", func := "outrider/outriderlaw10.GraphKnown", spec := "graphKnown", unfollowed := true, recurses := true, plainKeys := false, apart := false }
def GraphKnownSaid : Prop := graphKnownRow.holds Try.pinned (OpenSpec.ofChange graphKnownSpec)

/-- ITS FALSE NEIGHBOUR: 'it returns false'. Refute it at one input. -/
def graphKnownWrong : ChangeSpec := { name := "graphKnown", fn := fun _ => fun
  | [] => { results := [.lit (.bool false)], args := [] }
  | _ => none }
def GraphKnownWrongFalsely : Prop := graphKnownRow.holds Try.pinned (OpenSpec.ofChange graphKnownWrong)

/-- 'outriderlaw10.GraphSays': WHATEVER THE INPUT: true; the input reads as it did. -/
def graphSaysSpec : ChangeSpec := { name := "graphSays", fn := fun _ => fun
  | [d1, d2] => { results := [.lit (.bool true)], args := [d1, d2] }
  | _ => none }
def graphSaysRow : OpenClaim := { program := "ytboohafebkkdbaa", sum := "b59a96b92a20fe10818635cd6c8d6556ec7fac7f3602ce5ad7e4fe4e6dc6bfbd", func := "outrider/outriderlaw10.GraphSays", spec := "graphSays", unfollowed := true, recurses := true, plainKeys := false, apart := false }
def GraphSaysSaid : Prop := graphSaysRow.holds Try.pinned (OpenSpec.ofChange graphSaysSpec)

/-- ITS FALSE NEIGHBOUR: 'it returns false'. Refute it at one input. -/
def graphSaysWrong : ChangeSpec := { name := "graphSays", fn := fun _ => fun
  | [d1, d2] => { results := [.lit (.bool false)], args := [d1, d2] }
  | _ => none }
def GraphSaysWrongFalsely : Prop := graphSaysRow.holds Try.pinned (OpenSpec.ofChange graphSaysWrong)

/-- 'outriderlaw10.GraphCycles': WHATEVER THE INPUT: true; the input reads as it did. -/
def graphCyclesSpec : ChangeSpec := { name := "graphCycles", fn := fun _ => fun
  | [d] => { results := [.lit (.bool true)], args := [d] }
  | _ => none }
def graphCyclesRow : OpenClaim := { program := "ytboohafebkkdbaa", sum := "b59a96b92a20fe10818635cd6c8d6556ec7fac7f3602ce5ad7e4fe4e6dc6bfbd", func := "outrider/outriderlaw10.GraphCycles", spec := "graphCycles", unfollowed := true, recurses := true, plainKeys := false, apart := false }
def GraphCyclesSaid : Prop := graphCyclesRow.holds Try.pinned (OpenSpec.ofChange graphCyclesSpec)

/-- ITS FALSE NEIGHBOUR: 'it returns false'. Refute it at one input. -/
def graphCyclesWrong : ChangeSpec := { name := "graphCycles", fn := fun _ => fun
  | [d] => { results := [.lit (.bool false)], args := [d] }
  | _ => none }
def GraphCyclesWrongFalsely : Prop := graphCyclesRow.holds Try.pinned (OpenSpec.ofChange graphCyclesWrong)

/- THE SECOND FORM. 'bulk': how many values and letters a reading holds, each counted each time it is reached (what is shared counts as often as it is met; a slice's spare places count too). A statement '..UptoSaid' is the law's where the arguments, and the package variables that the reading takes, are together of bulk at most 1048576: NARROWER than '..Said'. Prove '..Said' where nothing that the law and all that it calls make is longer than what came in: it says more and counts as full. Else prove '..UptoSaid'. A law counts once. -/
mutual
def uptoBulk {H : Type} : DataW H → Nat
  | .lit (.string bytes) => bytes.length + 1
  | .lit _ => 1
  | .nil => 1
  | .ptr d => uptoBulk d + 1
  | .slice elems spare => uptoBulkAll elems + uptoBulkAll spare + 1
  | .agg parts => uptoBulkAll parts + 1
  | .iface _ d => uptoBulk d + 1
  | .map entries => uptoBulkEntries entries + 1
  | .held _ => 1
def uptoBulkAll {H : Type} : List (DataW H) → Nat
  | [] => 0
  | d :: r => uptoBulk d + uptoBulkAll r
def uptoBulkEntries {H : Type} : List (Lit × DataW H) → Nat
  | [] => 0
  | x :: r => uptoBulkEntry x + uptoBulkEntries r
def uptoBulkEntry {H : Type} : Lit × DataW H → Nat
  | (.string bytes, d) => bytes.length + uptoBulk d + 1
  | (_, d) => uptoBulk d + 1
 end
def uptoSmall : (H : Type) → List (DataW H) → Bool := fun _ ds => decide (uptoBulkAll ds ≤ 1048576)
def OpenSpec.upto (s : _root_.Go.ChangeSpec) : _root_.Go.OpenSpec := { _root_.Go.OpenSpec.ofChange s with cond := some uptoSmall }

/-- 'outriderlaw10.GraphShort', WHERE WHAT IT READS IS OF BULK AT MOST 1048576: true; the input reads as it did. -/
def graphShortUptoRow : OpenClaim := { program := "ytboohafebkkdbaa", sum := "b59a96b92a20fe10818635cd6c8d6556ec7fac7f3602ce5ad7e4fe4e6dc6bfbd", func := "outrider/outriderlaw10.GraphShort", spec := "graphShort", unfollowed := true, recurses := true, plainKeys := false, apart := false, narrowed := true }
def GraphShortUptoSaid : Prop := graphShortUptoRow.holds Try.pinned (OpenSpec.upto graphShortSpec)

/-- 'outriderlaw10.GraphThrough', WHERE WHAT IT READS IS OF BULK AT MOST 1048576: true; the input reads as it did. -/
def graphThroughUptoRow : OpenClaim := { program := "ytboohafebkkdbaa", sum := "b59a96b92a20fe10818635cd6c8d6556ec7fac7f3602ce5ad7e4fe4e6dc6bfbd", func := "outrider/outriderlaw10.GraphThrough", spec := "graphThrough", unfollowed := true, recurses := true, plainKeys := false, apart := false, narrowed := true }
def GraphThroughUptoSaid : Prop := graphThroughUptoRow.holds Try.pinned (OpenSpec.upto graphThroughSpec)

/-- 'outriderlaw10.GraphKnown', WHERE WHAT IT READS IS OF BULK AT MOST 1048576: true; the input reads as it did. -/
def graphKnownUptoRow : OpenClaim := { program := "ytboohafebkkdbaa", sum := "b59a96b92a20fe10818635cd6c8d6556ec7fac7f3602ce5ad7e4fe4e6dc6bfbd", func := "outrider/outriderlaw10.GraphKnown", spec := "graphKnown", unfollowed := true, recurses := true, plainKeys := false, apart := false, narrowed := true }
def GraphKnownUptoSaid : Prop := graphKnownUptoRow.holds Try.pinned (OpenSpec.upto graphKnownSpec)

/-- 'outriderlaw10.GraphSays', WHERE WHAT IT READS IS OF BULK AT MOST 1048576: true; the input reads as it did. -/
def graphSaysUptoRow : OpenClaim := { program := "ytboohafebkkdbaa", sum := "b59a96b92a20fe10818635cd6c8d6556ec7fac7f3602ce5ad7e4fe4e6dc6bfbd", func := "outrider/outriderlaw10.GraphSays", spec := "graphSays", unfollowed := true, recurses := true, plainKeys := false, apart := false, narrowed := true }
def GraphSaysUptoSaid : Prop := graphSaysUptoRow.holds Try.pinned (OpenSpec.upto graphSaysSpec)

/-- 'outriderlaw10.GraphCycles', WHERE WHAT IT READS IS OF BULK AT MOST 1048576: true; the input reads as it did. -/
def graphCyclesUptoRow : OpenClaim := { program := "ytboohafebkkdbaa", sum := "b59a96b92a20fe10818635cd6c8d6556ec7fac7f3602ce5ad7e4fe4e6dc6bfbd", func := "outrider/outriderlaw10.GraphCycles", spec := "graphCycles", unfollowed := true, recurses := true, plainKeys := false, apart := false, narrowed := true }
def GraphCyclesUptoSaid : Prop := graphCyclesUptoRow.holds Try.pinned (OpenSpec.upto graphCyclesSpec)

end Rows
end Go.Proofs.Ytboohafebkkdbaa
