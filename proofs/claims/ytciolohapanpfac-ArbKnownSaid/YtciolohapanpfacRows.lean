/-
  No cell of these rows narrows 'for every input' (looked for: loops, veiled, ifaces, maps, wideKeys, modest, calm, conditions, laid).
  DERIVED. THE GIVEN ROWS OF THIS SEAT. 5 by the template 'for every input the law returns true; each argument reads behind the call as it read before'; 0 by the template 'total and deterministic' (their statements: YtciolohapanpfacTotals.lean).
  GIVEN WITH THE SEED: the statements are not yours to turn. If you find one false, say at which input.
  Laid BY PROGRAM, IN A SANDBOX (cutbox-rows.mjs): the forced cells as the released guide's own fill.sh prints them over the translation 7c0f45bcc6618e03… (all of the seat's roots in one cut). By AI agents, Wed Nov 11 2026. No macro, syntax, notation, axiom, sorry.
-/
import Derived.Test.YtciolohapanpfacChecked
import GoSem.Claim
import GoSem.ClaimJoined
import GoSem.ClaimMapViews
import Derived.JoinedTies
import Derived.KernelRfl
namespace Go.Proofs.Ytciolohapanpfac
/- THE CELL 'sum', in the pinned program and in every row, IS THE sha256 OF THE DUMP (.gsa) THAT YtciolohapanpfacProg.lean LOADS. Nothing in Lean hashes anything: it is a label: what it is worth is what the hold of that sum in a sandbox is worth. -/
noncomputable def Try.pinned : Pinned := { name := "ytciolohapanpfac", sum := "7c0f45bcc6618e037f8ced0a6512cdb08290dbd67beb7f8618ca9c050cf54d1f", checked := Try.checked }
namespace Rows
def none {H : Type} : Left H := { results := [], args := [] }

/-- 'outriderlaw9.ArbFirst': WHATEVER THE INPUT: true; the input reads as it did. -/
def arbFirstSpec : ChangeSpec := { name := "arbFirst", fn := fun _ => fun
  | [d1, d2] => { results := [.lit (.bool true)], args := [d1, d2] }
  | _ => none }
def arbFirstRow : OpenClaim := { program := "ytciolohapanpfac", sum := "7c0f45bcc6618e037f8ced0a6512cdb08290dbd67beb7f8618ca9c050cf54d1f", func := "outrider/outriderlaw9.ArbFirst", spec := "arbFirst", apart := false }
def ArbFirstSaid : Prop := arbFirstRow.holds Try.pinned (OpenSpec.ofChange arbFirstSpec)

/-- ITS FALSE NEIGHBOUR: 'it returns false'. Refute it at one input. -/
def arbFirstWrong : ChangeSpec := { name := "arbFirst", fn := fun _ => fun
  | [d1, d2] => { results := [.lit (.bool false)], args := [d1, d2] }
  | _ => none }
def ArbFirstWrongFalsely : Prop := arbFirstRow.holds Try.pinned (OpenSpec.ofChange arbFirstWrong)

/-- 'outriderlaw9.ArbSays': WHATEVER THE INPUT: true; the input reads as it did. -/
def arbSaysSpec : ChangeSpec := { name := "arbSays", fn := fun _ => fun
  | [d1, d2, d3, d4] => { results := [.lit (.bool true)], args := [d1, d2, d3, d4] }
  | _ => none }
def arbSaysRow : OpenClaim := { program := "ytciolohapanpfac", sum := "7c0f45bcc6618e037f8ced0a6512cdb08290dbd67beb7f8618ca9c050cf54d1f", func := "outrider/outriderlaw9.ArbSays", spec := "arbSays", apart := false }
def ArbSaysSaid : Prop := arbSaysRow.holds Try.pinned (OpenSpec.ofChange arbSaysSpec)

/-- ITS FALSE NEIGHBOUR: 'it returns false'. Refute it at one input. -/
def arbSaysWrong : ChangeSpec := { name := "arbSays", fn := fun _ => fun
  | [d1, d2, d3, d4] => { results := [.lit (.bool false)], args := [d1, d2, d3, d4] }
  | _ => none }
def ArbSaysWrongFalsely : Prop := arbSaysRow.holds Try.pinned (OpenSpec.ofChange arbSaysWrong)

/-- 'outriderlaw9.ArbRound': WHATEVER THE INPUT: true; the input reads as it did. -/
def arbRoundSpec : ChangeSpec := { name := "arbRound", fn := fun _ => fun
  | [d1, d2, d3, d4] => { results := [.lit (.bool true)], args := [d1, d2, d3, d4] }
  | _ => none }
def arbRoundRow : OpenClaim := { program := "ytciolohapanpfac", sum := "7c0f45bcc6618e037f8ced0a6512cdb08290dbd67beb7f8618ca9c050cf54d1f", func := "outrider/outriderlaw9.ArbRound", spec := "arbRound", apart := false }
def ArbRoundSaid : Prop := arbRoundRow.holds Try.pinned (OpenSpec.ofChange arbRoundSpec)

/-- ITS FALSE NEIGHBOUR: 'it returns false'. Refute it at one input. -/
def arbRoundWrong : ChangeSpec := { name := "arbRound", fn := fun _ => fun
  | [d1, d2, d3, d4] => { results := [.lit (.bool false)], args := [d1, d2, d3, d4] }
  | _ => none }
def ArbRoundWrongFalsely : Prop := arbRoundRow.holds Try.pinned (OpenSpec.ofChange arbRoundWrong)

/-- 'outriderlaw9.ArbKnown': WHATEVER THE INPUT: true; the input reads as it did. -/
def arbKnownSpec : ChangeSpec := { name := "arbKnown", fn := fun _ => fun
  | [] => { results := [.lit (.bool true)], args := [] }
  | _ => none }
def arbKnownRow : OpenClaim := { program := "ytciolohapanpfac", sum := "7c0f45bcc6618e037f8ced0a6512cdb08290dbd67beb7f8618ca9c050cf54d1f", func := "outrider/outriderlaw9.ArbKnown", spec := "arbKnown", apart := false }
def ArbKnownSaid : Prop := arbKnownRow.holds Try.pinned (OpenSpec.ofChange arbKnownSpec)

/-- ITS FALSE NEIGHBOUR: 'it returns false'. Refute it at one input. -/
def arbKnownWrong : ChangeSpec := { name := "arbKnown", fn := fun _ => fun
  | [] => { results := [.lit (.bool false)], args := [] }
  | _ => none }
def ArbKnownWrongFalsely : Prop := arbKnownRow.holds Try.pinned (OpenSpec.ofChange arbKnownWrong)

/-- 'outriderlaw9.ArbPlays': WHATEVER THE INPUT: true; the input reads as it did. -/
def arbPlaysSpec : ChangeSpec := { name := "arbPlays", fn := fun _ => fun
  | [d] => { results := [.lit (.bool true)], args := [d] }
  | _ => none }
def arbPlaysRow : OpenClaim := { program := "ytciolohapanpfac", sum := "7c0f45bcc6618e037f8ced0a6512cdb08290dbd67beb7f8618ca9c050cf54d1f", func := "outrider/outriderlaw9.ArbPlays", spec := "arbPlays", apart := false }
def ArbPlaysSaid : Prop := arbPlaysRow.holds Try.pinned (OpenSpec.ofChange arbPlaysSpec)

/-- ITS FALSE NEIGHBOUR: 'it returns false'. Refute it at one input. -/
def arbPlaysWrong : ChangeSpec := { name := "arbPlays", fn := fun _ => fun
  | [d] => { results := [.lit (.bool false)], args := [d] }
  | _ => none }
def ArbPlaysWrongFalsely : Prop := arbPlaysRow.holds Try.pinned (OpenSpec.ofChange arbPlaysWrong)

/- THE SECOND FORM. 'bulk': how many values and letters a reading holds, each counted each time it is reached (what is shared counts as often as it is met; a slice's spare places count too). A statement '..UptoSaid' is the law's where the arguments, and the package variables that the reading takes, are together of bulk at most 1048576: NARROWER than '..Said'. Prove '..Said' where nothing that the law and all that it calls make is longer than what came in: it says more and counts as full. Else prove '..UptoSaid'. A law counts once. -/
mutual
def uptoBulk {H : Type} : DataW H → Nat
  | .lit (.string bytes) => bytes.length + 1
  | .lit _ => 1
  | .nil => 1
  | .ptr d => uptoBulk d + 1
  | .slice elems spare => uptoBulkAll elems + uptoBulkAll spare + 1
  | .agg parts => uptoBulkAll parts + 1
  | .iface _ d => uptoBulk d + 1
  | .map entries => uptoBulkEntries entries + 1
  | .held _ => 1
def uptoBulkAll {H : Type} : List (DataW H) → Nat
  | [] => 0
  | d :: r => uptoBulk d + uptoBulkAll r
def uptoBulkEntries {H : Type} : List (Lit × DataW H) → Nat
  | [] => 0
  | x :: r => uptoBulkEntry x + uptoBulkEntries r
def uptoBulkEntry {H : Type} : Lit × DataW H → Nat
  | (.string bytes, d) => bytes.length + uptoBulk d + 1
  | (_, d) => uptoBulk d + 1
 end
def uptoSmall : (H : Type) → List (DataW H) → Bool := fun _ ds => decide (uptoBulkAll ds ≤ 1048576)
def OpenSpec.upto (s : _root_.Go.ChangeSpec) : _root_.Go.OpenSpec := { _root_.Go.OpenSpec.ofChange s with cond := some uptoSmall }

/-- 'outriderlaw9.ArbFirst', WHERE WHAT IT READS IS OF BULK AT MOST 1048576: true; the input reads as it did. -/
def arbFirstUptoRow : OpenClaim := { program := "ytciolohapanpfac", sum := "7c0f45bcc6618e037f8ced0a6512cdb08290dbd67beb7f8618ca9c050cf54d1f", func := "outrider/outriderlaw9.ArbFirst", spec := "arbFirst", apart := false, narrowed := true }
def ArbFirstUptoSaid : Prop := arbFirstUptoRow.holds Try.pinned (OpenSpec.upto arbFirstSpec)

/-- 'outriderlaw9.ArbSays', WHERE WHAT IT READS IS OF BULK AT MOST 1048576: true; the input reads as it did. -/
def arbSaysUptoRow : OpenClaim := { program := "ytciolohapanpfac", sum := "7c0f45bcc6618e037f8ced0a6512cdb08290dbd67beb7f8618ca9c050cf54d1f", func := "outrider/outriderlaw9.ArbSays", spec := "arbSays", apart := false, narrowed := true }
def ArbSaysUptoSaid : Prop := arbSaysUptoRow.holds Try.pinned (OpenSpec.upto arbSaysSpec)

/-- 'outriderlaw9.ArbRound', WHERE WHAT IT READS IS OF BULK AT MOST 1048576: true; the input reads as it did. -/
def arbRoundUptoRow : OpenClaim := { program := "ytciolohapanpfac", sum := "7c0f45bcc6618e037f8ced0a6512cdb08290dbd67beb7f8618ca9c050cf54d1f", func := "outrider/outriderlaw9.ArbRound", spec := "arbRound", apart := false, narrowed := true }
def ArbRoundUptoSaid : Prop := arbRoundUptoRow.holds Try.pinned (OpenSpec.upto arbRoundSpec)

/-- 'outriderlaw9.ArbKnown', WHERE WHAT IT READS IS OF BULK AT MOST 1048576: true; the input reads as it did. -/
def arbKnownUptoRow : OpenClaim := { program := "ytciolohapanpfac", sum := "7c0f45bcc6618e037f8ced0a6512cdb08290dbd67beb7f8618ca9c050cf54d1f", func := "outrider/outriderlaw9.ArbKnown", spec := "arbKnown", apart := false, narrowed := true }
def ArbKnownUptoSaid : Prop := arbKnownUptoRow.holds Try.pinned (OpenSpec.upto arbKnownSpec)

/-- 'outriderlaw9.ArbPlays', WHERE WHAT IT READS IS OF BULK AT MOST 1048576: true; the input reads as it did. -/
def arbPlaysUptoRow : OpenClaim := { program := "ytciolohapanpfac", sum := "7c0f45bcc6618e037f8ced0a6512cdb08290dbd67beb7f8618ca9c050cf54d1f", func := "outrider/outriderlaw9.ArbPlays", spec := "arbPlays", apart := false, narrowed := true }
def ArbPlaysUptoSaid : Prop := arbPlaysUptoRow.holds Try.pinned (OpenSpec.upto arbPlaysSpec)

end Rows
end Go.Proofs.Ytciolohapanpfac
