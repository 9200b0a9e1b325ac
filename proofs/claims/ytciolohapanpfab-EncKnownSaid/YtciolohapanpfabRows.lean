/-
  No cell of these rows narrows 'for every input' (looked for: loops, veiled, ifaces, maps, wideKeys, modest, calm, conditions, laid).
  DERIVED. THE GIVEN ROWS OF THIS SEAT. 5 by the template 'for every input the law returns true; each argument reads behind the call as it read before'; 0 by the template 'total and deterministic' (their statements: YtciolohapanpfabTotals.lean).
  GIVEN WITH THE SEED: the statements are not yours to turn. If you find one false, say at which input.
  Laid BY PROGRAM, IN A SANDBOX (cutbox-rows.mjs): the forced cells as the released guide's own fill.sh prints them over the translation e5ee9c8fdaa360c9… (all of the seat's roots in one cut). By AI agents, Wed Nov 11 2026. No macro, syntax, notation, axiom, sorry.
-/
import Derived.Test.YtciolohapanpfabChecked
import GoSem.Claim
import GoSem.ClaimJoined
import GoSem.ClaimMapViews
import Derived.JoinedTies
import Derived.KernelRfl
namespace Go.Proofs.Ytciolohapanpfab
/- THE CELL 'sum', in the pinned program and in every row, IS THE sha256 OF THE DUMP (.gsa) THAT YtciolohapanpfabProg.lean LOADS. Nothing in Lean hashes anything: it is a label: what it is worth is what the hold of that sum in a sandbox is worth. -/
noncomputable def Try.pinned : Pinned := { name := "ytciolohapanpfab", sum := "e5ee9c8fdaa360c93de773fb72dc2aec64451ae8a486b1a2df84cf8a7bda2afd", checked := Try.checked }
namespace Rows
def none {H : Type} : Left H := { results := [], args := [] }

/-- 'outriderlaw3.EncShort': WHATEVER THE INPUT: true; the input reads as it did. -/
def encShortSpec : ChangeSpec := { name := "encShort", fn := fun _ => fun
  | [d1, d2] => { results := [.lit (.bool true)], args := [d1, d2] }
  | _ => none }
def encShortRow : OpenClaim := { program := "ytciolohapanpfab", sum := "e5ee9c8fdaa360c93de773fb72dc2aec64451ae8a486b1a2df84cf8a7bda2afd", func := "outrider/outriderlaw3.EncShort", spec := "encShort", apart := false }
def EncShortSaid : Prop := encShortRow.holds Try.pinned (OpenSpec.ofChange encShortSpec)

/-- ITS FALSE NEIGHBOUR: 'it returns false'. Refute it at one input. -/
def encShortWrong : ChangeSpec := { name := "encShort", fn := fun _ => fun
  | [d1, d2] => { results := [.lit (.bool false)], args := [d1, d2] }
  | _ => none }
def EncShortWrongFalsely : Prop := encShortRow.holds Try.pinned (OpenSpec.ofChange encShortWrong)

/-- 'outriderlaw3.EncBack': WHATEVER THE INPUT: true; the input reads as it did. -/
def encBackSpec : ChangeSpec := { name := "encBack", fn := fun _ => fun
  | [d1, d2, d3, d4] => { results := [.lit (.bool true)], args := [d1, d2, d3, d4] }
  | _ => none }
def encBackRow : OpenClaim := { program := "ytciolohapanpfab", sum := "e5ee9c8fdaa360c93de773fb72dc2aec64451ae8a486b1a2df84cf8a7bda2afd", func := "outrider/outriderlaw3.EncBack", spec := "encBack", apart := false }
def EncBackSaid : Prop := encBackRow.holds Try.pinned (OpenSpec.ofChange encBackSpec)

/-- ITS FALSE NEIGHBOUR: 'it returns false'. Refute it at one input. -/
def encBackWrong : ChangeSpec := { name := "encBack", fn := fun _ => fun
  | [d1, d2, d3, d4] => { results := [.lit (.bool false)], args := [d1, d2, d3, d4] }
  | _ => none }
def EncBackWrongFalsely : Prop := encBackRow.holds Try.pinned (OpenSpec.ofChange encBackWrong)

/-- 'outriderlaw3.EncRow': WHATEVER THE INPUT: true; the input reads as it did. -/
def encRowSpec : ChangeSpec := { name := "encRow", fn := fun _ => fun
  | [d1, d2] => { results := [.lit (.bool true)], args := [d1, d2] }
  | _ => none }
def encRowRow : OpenClaim := { program := "ytciolohapanpfab", sum := "e5ee9c8fdaa360c93de773fb72dc2aec64451ae8a486b1a2df84cf8a7bda2afd", func := "outrider/outriderlaw3.EncRow", spec := "encRow", apart := false }
def EncRowSaid : Prop := encRowRow.holds Try.pinned (OpenSpec.ofChange encRowSpec)

/-- ITS FALSE NEIGHBOUR: 'it returns false'. Refute it at one input. -/
def encRowWrong : ChangeSpec := { name := "encRow", fn := fun _ => fun
  | [d1, d2] => { results := [.lit (.bool false)], args := [d1, d2] }
  | _ => none }
def EncRowWrongFalsely : Prop := encRowRow.holds Try.pinned (OpenSpec.ofChange encRowWrong)

/-- 'outriderlaw3.EncReads': WHATEVER THE INPUT: true; the input reads as it did. -/
def encReadsSpec : ChangeSpec := { name := "encReads", fn := fun _ => fun
  | [d1, d2] => { results := [.lit (.bool true)], args := [d1, d2] }
  | _ => none }
def encReadsRow : OpenClaim := { program := "ytciolohapanpfab", sum := "e5ee9c8fdaa360c93de773fb72dc2aec64451ae8a486b1a2df84cf8a7bda2afd", func := "outrider/outriderlaw3.EncReads", spec := "encReads", apart := false }
def EncReadsSaid : Prop := encReadsRow.holds Try.pinned (OpenSpec.ofChange encReadsSpec)

/-- ITS FALSE NEIGHBOUR: 'it returns false'. Refute it at one input. -/
def encReadsWrong : ChangeSpec := { name := "encReads", fn := fun _ => fun
  | [d1, d2] => { results := [.lit (.bool false)], args := [d1, d2] }
  | _ => none }
def EncReadsWrongFalsely : Prop := encReadsRow.holds Try.pinned (OpenSpec.ofChange encReadsWrong)

/-- 'outriderlaw3.EncKnown': WHATEVER THE INPUT: true; the input reads as it did. -/
def encKnownSpec : ChangeSpec := { name := "encKnown", fn := fun _ => fun
  | [] => { results := [.lit (.bool true)], args := [] }
  | _ => none }
def encKnownRow : OpenClaim := { program := "ytciolohapanpfab", sum := "e5ee9c8fdaa360c93de773fb72dc2aec64451ae8a486b1a2df84cf8a7bda2afd", func := "outrider/outriderlaw3.EncKnown", spec := "encKnown", apart := false }
def EncKnownSaid : Prop := encKnownRow.holds Try.pinned (OpenSpec.ofChange encKnownSpec)

/-- ITS FALSE NEIGHBOUR: 'it returns false'. Refute it at one input. -/
def encKnownWrong : ChangeSpec := { name := "encKnown", fn := fun _ => fun
  | [] => { results := [.lit (.bool false)], args := [] }
  | _ => none }
def EncKnownWrongFalsely : Prop := encKnownRow.holds Try.pinned (OpenSpec.ofChange encKnownWrong)

/- THE SECOND FORM. 'bulk': how many values and letters a reading holds, each counted each time it is reached (what is shared counts as often as it is met; a slice's spare places count too). A statement '..UptoSaid' is the law's where the arguments, and the package variables that the reading takes, are together of bulk at most 1048576: NARROWER than '..Said'. Prove '..Said' where nothing that the law and all that it calls make is longer than what came in: it says more and counts as full. Else prove '..UptoSaid'. A law counts once. -/
mutual
def uptoBulk {H : Type} : DataW H → Nat
  | .lit (.string bytes) => bytes.length + 1
  | .lit _ => 1
  | .nil => 1
  | .ptr d => uptoBulk d + 1
  | .slice elems spare => uptoBulkAll elems + uptoBulkAll spare + 1
  | .agg parts => uptoBulkAll parts + 1
  | .iface _ d => uptoBulk d + 1
  | .map entries => uptoBulkEntries entries + 1
  | .held _ => 1
def uptoBulkAll {H : Type} : List (DataW H) → Nat
  | [] => 0
  | d :: r => uptoBulk d + uptoBulkAll r
def uptoBulkEntries {H : Type} : List (Lit × DataW H) → Nat
  | [] => 0
  | x :: r => uptoBulkEntry x + uptoBulkEntries r
def uptoBulkEntry {H : Type} : Lit × DataW H → Nat
  | (.string bytes, d) => bytes.length + uptoBulk d + 1
  | (_, d) => uptoBulk d + 1
 end
def uptoSmall : (H : Type) → List (DataW H) → Bool := fun _ ds => decide (uptoBulkAll ds ≤ 1048576)
def OpenSpec.upto (s : _root_.Go.ChangeSpec) : _root_.Go.OpenSpec := { _root_.Go.OpenSpec.ofChange s with cond := some uptoSmall }

/-- 'outriderlaw3.EncShort', WHERE WHAT IT READS IS OF BULK AT MOST 1048576: true; the input reads as it did. -/
def encShortUptoRow : OpenClaim := { program := "ytciolohapanpfab", sum := "e5ee9c8fdaa360c93de773fb72dc2aec64451ae8a486b1a2df84cf8a7bda2afd", func := "outrider/outriderlaw3.EncShort", spec := "encShort", apart := false, narrowed := true }
def EncShortUptoSaid : Prop := encShortUptoRow.holds Try.pinned (OpenSpec.upto encShortSpec)

/-- 'outriderlaw3.EncBack', WHERE WHAT IT READS IS OF BULK AT MOST 1048576: true; the input reads as it did. -/
def encBackUptoRow : OpenClaim := { program := "ytciolohapanpfab", sum := "e5ee9c8fdaa360c93de773fb72dc2aec64451ae8a486b1a2df84cf8a7bda2afd", func := "outrider/outriderlaw3.EncBack", spec := "encBack", apart := false, narrowed := true }
def EncBackUptoSaid : Prop := encBackUptoRow.holds Try.pinned (OpenSpec.upto encBackSpec)

/-- 'outriderlaw3.EncRow', WHERE WHAT IT READS IS OF BULK AT MOST 1048576: true; the input reads as it did. -/
def encRowUptoRow : OpenClaim := { program := "ytciolohapanpfab", sum := "e5ee9c8fdaa360c93de773fb72dc2aec64451ae8a486b1a2df84cf8a7bda2afd", func := "outrider/outriderlaw3.EncRow", spec := "encRow", apart := false, narrowed := true }
def EncRowUptoSaid : Prop := encRowUptoRow.holds Try.pinned (OpenSpec.upto encRowSpec)

/-- 'outriderlaw3.EncReads', WHERE WHAT IT READS IS OF BULK AT MOST 1048576: true; the input reads as it did. -/
def encReadsUptoRow : OpenClaim := { program := "ytciolohapanpfab", sum := "e5ee9c8fdaa360c93de773fb72dc2aec64451ae8a486b1a2df84cf8a7bda2afd", func := "outrider/outriderlaw3.EncReads", spec := "encReads", apart := false, narrowed := true }
def EncReadsUptoSaid : Prop := encReadsUptoRow.holds Try.pinned (OpenSpec.upto encReadsSpec)

/-- 'outriderlaw3.EncKnown', WHERE WHAT IT READS IS OF BULK AT MOST 1048576: true; the input reads as it did. -/
def encKnownUptoRow : OpenClaim := { program := "ytciolohapanpfab", sum := "e5ee9c8fdaa360c93de773fb72dc2aec64451ae8a486b1a2df84cf8a7bda2afd", func := "outrider/outriderlaw3.EncKnown", spec := "encKnown", apart := false, narrowed := true }
def EncKnownUptoSaid : Prop := encKnownUptoRow.holds Try.pinned (OpenSpec.upto encKnownSpec)

end Rows
end Go.Proofs.Ytciolohapanpfab
