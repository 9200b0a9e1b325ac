/-
  No cell of these rows narrows 'for every input' (looked for: loops, veiled, ifaces, maps, wideKeys, modest, calm, conditions, laid).
  DERIVED. THE GIVEN ROWS OF THIS SEAT. 5 by the template 'for every input the law returns true; each argument reads behind the call as it read before'; 0 by the template 'total and deterministic' (their statements: YtmejphlpcgochaaTotals.lean).
  GIVEN WITH THE SEED: the statements are not yours to turn. If you find one false, say at which input.
  Laid BY PROGRAM, IN A SANDBOX (cutbox-rows.mjs): the forced cells as the released guide's own fill.sh prints them over the translation 73dbcd279cc1f5f8… (all of the seat's roots in one cut). By AI agents, Wed Nov 11 2026. No macro, syntax, notation, axiom, sorry.
-/
import Derived.Test.YtmejphlpcgochaaChecked
import GoSem.Claim
import GoSem.ClaimJoined
import GoSem.ClaimMapViews
import Derived.JoinedTies
import Derived.KernelRfl
namespace Go.Proofs.Ytmejphlpcgochaa
/- THE CELL 'sum', in the pinned program and in every row, IS THE sha256 OF THE DUMP (.gsa) THAT YtmejphlpcgochaaProg.lean LOADS. Nothing in Lean hashes anything: it is a label: what it is worth is what the hold of that sum in a sandbox is worth. -/
noncomputable def Try.pinned : Pinned := { name := "ytmejphlpcgochaa", sum := "73dbcd279cc1f5f8c5f98225febd61b970a42622ff5762bafa755daa08b38804", checked := Try.checked }
namespace Rows
def none {H : Type} : Left H := { results := [], args := [] }

/-- 'outriderlaw11.TopoPaths': WHATEVER THE INPUT: true; the input reads as it did. -/
def topoPathsSpec : ChangeSpec := { name := "topoPaths", fn := fun _ => fun
  | [d1, d2, d3] => { results := [.lit (.bool true)], args := [d1, d2, d3] }
  | _ => none }
def topoPathsRow : OpenClaim := { program := "ytmejphlpcgochaa", sum := "73dbcd279cc1f5f8c5f98225febd61b970a42622ff5762bafa755daa08b38804", func := "outrider/outriderlaw11.TopoPaths", spec := "topoPaths", unfollowed := true, recurses := true, plainKeys := false, apart := false }
def TopoPathsSaid : Prop := topoPathsRow.holds Try.pinned (OpenSpec.ofChange topoPathsSpec)

/-- ITS FALSE NEIGHBOUR: 'it returns false'. Refute it at one input. -/
def topoPathsWrong : ChangeSpec := { name := "topoPaths", fn := fun _ => fun
  | [d1, d2, d3] => { results := [.lit (.bool false)], args := [d1, d2, d3] }
  | _ => none }
def TopoPathsWrongFalsely : Prop := topoPathsRow.holds Try.pinned (OpenSpec.ofChange topoPathsWrong)

/-- 'outriderlaw11.TopoKnown': WHATEVER THE INPUT: true; the input reads as it did. -/
def topoKnownSpec : ChangeSpec := { name := "topoKnown", fn := fun _ => fun
  | [] => { results := [.lit (.bool true)], args := [] }
  | _ => none }
def topoKnownRow : OpenClaim := { program := "ytmejphlpcgochaa", sum := "73dbcd279cc1f5f8c5f98225febd61b970a42622ff5762bafa755daa08b38804", func := "outrider/outriderlaw11.TopoKnown", spec := "topoKnown", unfollowed := true, recurses := true, plainKeys := false, apart := false }
def TopoKnownSaid : Prop := topoKnownRow.holds Try.pinned (OpenSpec.ofChange topoKnownSpec)

/-- ITS FALSE NEIGHBOUR: 'it returns false'. Refute it at one input. -/
def topoKnownWrong : ChangeSpec := { name := "topoKnown", fn := fun _ => fun
  | [] => { results := [.lit (.bool false)], args := [] }
  | _ => none }
def TopoKnownWrongFalsely : Prop := topoKnownRow.holds Try.pinned (OpenSpec.ofChange topoKnownWrong)

/-- 'outriderlaw11.TopoSays': WHATEVER THE INPUT: true; the input reads as it did. -/
def topoSaysSpec : ChangeSpec := { name := "topoSays", fn := fun _ => fun
  | [d1, d2, d3, d4] => { results := [.lit (.bool true)], args := [d1, d2, d3, d4] }
  | _ => none }
def topoSaysRow : OpenClaim := { program := "ytmejphlpcgochaa", sum := "73dbcd279cc1f5f8c5f98225febd61b970a42622ff5762bafa755daa08b38804", func := "outrider/outriderlaw11.TopoSays", spec := "topoSays", unfollowed := true, recurses := true, plainKeys := false, apart := false }
def TopoSaysSaid : Prop := topoSaysRow.holds Try.pinned (OpenSpec.ofChange topoSaysSpec)

/-- ITS FALSE NEIGHBOUR: 'it returns false'. Refute it at one input. -/
def topoSaysWrong : ChangeSpec := { name := "topoSays", fn := fun _ => fun
  | [d1, d2, d3, d4] => { results := [.lit (.bool false)], args := [d1, d2, d3, d4] }
  | _ => none }
def TopoSaysWrongFalsely : Prop := topoSaysRow.holds Try.pinned (OpenSpec.ofChange topoSaysWrong)

/-- 'outriderlaw11.TopoOrders': WHATEVER THE INPUT: true; the input reads as it did. -/
def topoOrdersSpec : ChangeSpec := { name := "topoOrders", fn := fun _ => fun
  | [d] => { results := [.lit (.bool true)], args := [d] }
  | _ => none }
def topoOrdersRow : OpenClaim := { program := "ytmejphlpcgochaa", sum := "73dbcd279cc1f5f8c5f98225febd61b970a42622ff5762bafa755daa08b38804", func := "outrider/outriderlaw11.TopoOrders", spec := "topoOrders", unfollowed := true, recurses := true, plainKeys := false, apart := false }
def TopoOrdersSaid : Prop := topoOrdersRow.holds Try.pinned (OpenSpec.ofChange topoOrdersSpec)

/-- ITS FALSE NEIGHBOUR: 'it returns false'. Refute it at one input. -/
def topoOrdersWrong : ChangeSpec := { name := "topoOrders", fn := fun _ => fun
  | [d] => { results := [.lit (.bool false)], args := [d] }
  | _ => none }
def TopoOrdersWrongFalsely : Prop := topoOrdersRow.holds Try.pinned (OpenSpec.ofChange topoOrdersWrong)

/-- 'outriderlaw11.TopoLong': WHATEVER THE INPUT: true; the input reads as it did. -/
def topoLongSpec : ChangeSpec := { name := "topoLong", fn := fun _ => fun
  | [d] => { results := [.lit (.bool true)], args := [d] }
  | _ => none }
def topoLongRow : OpenClaim := { program := "ytmejphlpcgochaa", sum := "73dbcd279cc1f5f8c5f98225febd61b970a42622ff5762bafa755daa08b38804", func := "outrider/outriderlaw11.TopoLong", spec := "topoLong", unfollowed := true, recurses := true, plainKeys := false, apart := false }
def TopoLongSaid : Prop := topoLongRow.holds Try.pinned (OpenSpec.ofChange topoLongSpec)

/-- ITS FALSE NEIGHBOUR: 'it returns false'. Refute it at one input. -/
def topoLongWrong : ChangeSpec := { name := "topoLong", fn := fun _ => fun
  | [d] => { results := [.lit (.bool false)], args := [d] }
  | _ => none }
def TopoLongWrongFalsely : Prop := topoLongRow.holds Try.pinned (OpenSpec.ofChange topoLongWrong)

/- THE SECOND FORM. 'bulk': how many values and letters a reading holds, each counted each time it is reached (what is shared counts as often as it is met; a slice's spare places count too). A statement '..UptoSaid' is the law's where the arguments, and the package variables that the reading takes, are together of bulk at most 1048576: NARROWER than '..Said'. Prove '..Said' where nothing that the law and all that it calls make is longer than what came in: it says more and counts as full. Else prove '..UptoSaid'. A law counts once. -/
mutual
def uptoBulk {H : Type} : DataW H → Nat
  | .lit (.string bytes) => bytes.length + 1
  | .lit _ => 1
  | .nil => 1
  | .ptr d => uptoBulk d + 1
  | .slice elems spare => uptoBulkAll elems + uptoBulkAll spare + 1
  | .agg parts => uptoBulkAll parts + 1
  | .iface _ d => uptoBulk d + 1
  | .map entries => uptoBulkEntries entries + 1
  | .held _ => 1
def uptoBulkAll {H : Type} : List (DataW H) → Nat
  | [] => 0
  | d :: r => uptoBulk d + uptoBulkAll r
def uptoBulkEntries {H : Type} : List (Lit × DataW H) → Nat
  | [] => 0
  | x :: r => uptoBulkEntry x + uptoBulkEntries r
def uptoBulkEntry {H : Type} : Lit × DataW H → Nat
  | (.string bytes, d) => bytes.length + uptoBulk d + 1
  | (_, d) => uptoBulk d + 1
 end
def uptoSmall : (H : Type) → List (DataW H) → Bool := fun _ ds => decide (uptoBulkAll ds ≤ 1048576)
def OpenSpec.upto (s : _root_.Go.ChangeSpec) : _root_.Go.OpenSpec := { _root_.Go.OpenSpec.ofChange s with cond := some uptoSmall }

/-- 'outriderlaw11.TopoPaths', WHERE WHAT IT READS IS OF BULK AT MOST 1048576: true; the input reads as it did. -/
def topoPathsUptoRow : OpenClaim := { program := "ytmejphlpcgochaa", sum := "73dbcd279cc1f5f8c5f98225febd61b970a42622ff5762bafa755daa08b38804", func := "outrider/outriderlaw11.TopoPaths", spec := "topoPaths", unfollowed := true, recurses := true, plainKeys := false, apart := false, narrowed := true }
def TopoPathsUptoSaid : Prop := topoPathsUptoRow.holds Try.pinned (OpenSpec.upto topoPathsSpec)

/-- 'outriderlaw11.TopoKnown', WHERE WHAT IT READS IS OF BULK AT MOST 1048576: true; the input reads as it did. -/
def topoKnownUptoRow : OpenClaim := { program := "ytmejphlpcgochaa", sum := "73dbcd279cc1f5f8c5f98225febd61b970a42622ff5762bafa755daa08b38804", func := "outrider/outriderlaw11.TopoKnown", spec := "topoKnown", unfollowed := true, recurses := true, plainKeys := false, apart := false, narrowed := true }
def TopoKnownUptoSaid : Prop := topoKnownUptoRow.holds Try.pinned (OpenSpec.upto topoKnownSpec)

/-- 'outriderlaw11.TopoSays', WHERE WHAT IT READS IS OF BULK AT MOST 1048576: true; the input reads as it did. -/
def topoSaysUptoRow : OpenClaim := { program := "ytmejphlpcgochaa", sum := "73dbcd279cc1f5f8c5f98225febd61b970a42622ff5762bafa755daa08b38804", func := "outrider/outriderlaw11.TopoSays", spec := "topoSays", unfollowed := true, recurses := true, plainKeys := false, apart := false, narrowed := true }
def TopoSaysUptoSaid : Prop := topoSaysUptoRow.holds Try.pinned (OpenSpec.upto topoSaysSpec)

/-- 'outriderlaw11.TopoOrders', WHERE WHAT IT READS IS OF BULK AT MOST 1048576: true; the input reads as it did. -/
def topoOrdersUptoRow : OpenClaim := { program := "ytmejphlpcgochaa", sum := "73dbcd279cc1f5f8c5f98225febd61b970a42622ff5762bafa755daa08b38804", func := "outrider/outriderlaw11.TopoOrders", spec := "topoOrders", unfollowed := true, recurses := true, plainKeys := false, apart := false, narrowed := true }
def TopoOrdersUptoSaid : Prop := topoOrdersUptoRow.holds Try.pinned (OpenSpec.upto topoOrdersSpec)

/-- 'outriderlaw11.TopoLong', WHERE WHAT IT READS IS OF BULK AT MOST 1048576: true; the input reads as it did. -/
def topoLongUptoRow : OpenClaim := { program := "ytmejphlpcgochaa", sum := "73dbcd279cc1f5f8c5f98225febd61b970a42622ff5762bafa755daa08b38804", func := "outrider/outriderlaw11.TopoLong", spec := "topoLong", unfollowed := true, recurses := true, plainKeys := false, apart := false, narrowed := true }
def TopoLongUptoSaid : Prop := topoLongUptoRow.holds Try.pinned (OpenSpec.upto topoLongSpec)

end Rows
end Go.Proofs.Ytmejphlpcgochaa
