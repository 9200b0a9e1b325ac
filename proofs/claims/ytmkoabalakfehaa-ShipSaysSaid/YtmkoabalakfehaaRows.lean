/-
  No cell of these rows narrows 'for every input' (looked for: loops, veiled, ifaces, maps, wideKeys, modest, calm, conditions, laid).
  DERIVED. THE GIVEN ROWS OF THIS SEAT. 4 by the template 'for every input the law returns true; each argument reads behind the call as it read before'; 0 by the template 'total and deterministic' (their statements: YtmkoabalakfehaaTotals.lean).
  GIVEN WITH THE SEED: the statements are not yours to turn. If you find one false, say at which input.
  Laid BY PROGRAM, IN A SANDBOX (cutbox-rows.mjs): the forced cells as the released guide's own fill.sh prints them over the translation 9eeb72d5e2ad5bc1… (all of the seat's roots in one cut). By AI agents, Wed Nov 11 2026. No macro, syntax, notation, axiom, sorry.
-/
import Derived.Test.YtmkoabalakfehaaChecked
import GoSem.Claim
import GoSem.ClaimJoined
import GoSem.ClaimMapViews
import Derived.JoinedTies
import Derived.KernelRfl
namespace Go.Proofs.Ytmkoabalakfehaa
/- THE CELL 'sum', in the pinned program and in every row, IS THE sha256 OF THE DUMP (.gsa) THAT YtmkoabalakfehaaProg.lean LOADS. Nothing in Lean hashes anything: it is a label: what it is worth is what the hold of that sum in a sandbox is worth. -/
noncomputable def Try.pinned : Pinned := { name := "ytmkoabalakfehaa", sum := "9eeb72d5e2ad5bc1b33ab49383840967c37fc0e4be5a09f694cdace659eacdf1", checked := Try.checked }
namespace Rows
def none {H : Type} : Left H := { results := [], args := [] }

/-- 'outriderlaw23.ShipRises': WHATEVER THE INPUT: true; the input reads as it did. -/
def shipRisesSpec : ChangeSpec := { name := "shipRises", fn := fun _ => fun
  | [d1, d2] => { results := [.lit (.bool true)], args := [d1, d2] }
  | _ => none }
def shipRisesRow : OpenClaim := { program := "ytmkoabalakfehaa", sum := "9eeb72d5e2ad5bc1b33ab49383840967c37fc0e4be5a09f694cdace659eacdf1", func := "outrider/outriderlaw23.ShipRises", spec := "shipRises", apart := false }
def ShipRisesSaid : Prop := shipRisesRow.holds Try.pinned (OpenSpec.ofChange shipRisesSpec)

/-- ITS FALSE NEIGHBOUR: 'it returns false'. Refute it at one input. -/
def shipRisesWrong : ChangeSpec := { name := "shipRises", fn := fun _ => fun
  | [d1, d2] => { results := [.lit (.bool false)], args := [d1, d2] }
  | _ => none }
def ShipRisesWrongFalsely : Prop := shipRisesRow.holds Try.pinned (OpenSpec.ofChange shipRisesWrong)

/-- 'outriderlaw23.ShipKnown': WHATEVER THE INPUT: true; the input reads as it did. -/
def shipKnownSpec : ChangeSpec := { name := "shipKnown", fn := fun _ => fun
  | [] => { results := [.lit (.bool true)], args := [] }
  | _ => none }
def shipKnownRow : OpenClaim := { program := "ytmkoabalakfehaa", sum := "9eeb72d5e2ad5bc1b33ab49383840967c37fc0e4be5a09f694cdace659eacdf1", func := "outrider/outriderlaw23.ShipKnown", spec := "shipKnown", apart := false }
def ShipKnownSaid : Prop := shipKnownRow.holds Try.pinned (OpenSpec.ofChange shipKnownSpec)

/-- ITS FALSE NEIGHBOUR: 'it returns false'. Refute it at one input. -/
def shipKnownWrong : ChangeSpec := { name := "shipKnown", fn := fun _ => fun
  | [] => { results := [.lit (.bool false)], args := [] }
  | _ => none }
def ShipKnownWrongFalsely : Prop := shipKnownRow.holds Try.pinned (OpenSpec.ofChange shipKnownWrong)

/-- 'outriderlaw23.ShipSays': WHATEVER THE INPUT: true; the input reads as it did. -/
def shipSaysSpec : ChangeSpec := { name := "shipSays", fn := fun _ => fun
  | [d1, d2, d3, d4, d5, d6] => { results := [.lit (.bool true)], args := [d1, d2, d3, d4, d5, d6] }
  | _ => none }
def shipSaysRow : OpenClaim := { program := "ytmkoabalakfehaa", sum := "9eeb72d5e2ad5bc1b33ab49383840967c37fc0e4be5a09f694cdace659eacdf1", func := "outrider/outriderlaw23.ShipSays", spec := "shipSays", apart := false }
def ShipSaysSaid : Prop := shipSaysRow.holds Try.pinned (OpenSpec.ofChange shipSaysSpec)

/-- ITS FALSE NEIGHBOUR: 'it returns false'. Refute it at one input. -/
def shipSaysWrong : ChangeSpec := { name := "shipSays", fn := fun _ => fun
  | [d1, d2, d3, d4, d5, d6] => { results := [.lit (.bool false)], args := [d1, d2, d3, d4, d5, d6] }
  | _ => none }
def ShipSaysWrongFalsely : Prop := shipSaysRow.holds Try.pinned (OpenSpec.ofChange shipSaysWrong)

/-- 'outriderlaw23.ShipFits': WHATEVER THE INPUT: true; the input reads as it did. -/
def shipFitsSpec : ChangeSpec := { name := "shipFits", fn := fun _ => fun
  | [d1, d2, d3] => { results := [.lit (.bool true)], args := [d1, d2, d3] }
  | _ => none }
def shipFitsRow : OpenClaim := { program := "ytmkoabalakfehaa", sum := "9eeb72d5e2ad5bc1b33ab49383840967c37fc0e4be5a09f694cdace659eacdf1", func := "outrider/outriderlaw23.ShipFits", spec := "shipFits", unfollowed := true, recurses := true, apart := false }
def ShipFitsSaid : Prop := shipFitsRow.holds Try.pinned (OpenSpec.ofChange shipFitsSpec)

/-- ITS FALSE NEIGHBOUR: 'it returns false'. Refute it at one input. -/
def shipFitsWrong : ChangeSpec := { name := "shipFits", fn := fun _ => fun
  | [d1, d2, d3] => { results := [.lit (.bool false)], args := [d1, d2, d3] }
  | _ => none }
def ShipFitsWrongFalsely : Prop := shipFitsRow.holds Try.pinned (OpenSpec.ofChange shipFitsWrong)

/- THE SECOND FORM. 'bulk': how many values and letters a reading holds, each counted each time it is reached (what is shared counts as often as it is met; a slice's spare places count too). A statement '..UptoSaid' is the law's where the arguments, and the package variables that the reading takes, are together of bulk at most 1048576: NARROWER than '..Said'. Prove '..Said' where nothing that the law and all that it calls make is longer than what came in: it says more and counts as full. Else prove '..UptoSaid'. A law counts once. -/
mutual
def uptoBulk {H : Type} : DataW H → Nat
  | .lit (.string bytes) => bytes.length + 1
  | .lit _ => 1
  | .nil => 1
  | .ptr d => uptoBulk d + 1
  | .slice elems spare => uptoBulkAll elems + uptoBulkAll spare + 1
  | .agg parts => uptoBulkAll parts + 1
  | .iface _ d => uptoBulk d + 1
  | .map entries => uptoBulkEntries entries + 1
  | .held _ => 1
def uptoBulkAll {H : Type} : List (DataW H) → Nat
  | [] => 0
  | d :: r => uptoBulk d + uptoBulkAll r
def uptoBulkEntries {H : Type} : List (Lit × DataW H) → Nat
  | [] => 0
  | x :: r => uptoBulkEntry x + uptoBulkEntries r
def uptoBulkEntry {H : Type} : Lit × DataW H → Nat
  | (.string bytes, d) => bytes.length + uptoBulk d + 1
  | (_, d) => uptoBulk d + 1
 end
def uptoSmall : (H : Type) → List (DataW H) → Bool := fun _ ds => decide (uptoBulkAll ds ≤ 1048576)
def OpenSpec.upto (s : _root_.Go.ChangeSpec) : _root_.Go.OpenSpec := { _root_.Go.OpenSpec.ofChange s with cond := some uptoSmall }

/-- 'outriderlaw23.ShipRises', WHERE WHAT IT READS IS OF BULK AT MOST 1048576: true; the input reads as it did. -/
def shipRisesUptoRow : OpenClaim := { program := "ytmkoabalakfehaa", sum := "9eeb72d5e2ad5bc1b33ab49383840967c37fc0e4be5a09f694cdace659eacdf1", func := "outrider/outriderlaw23.ShipRises", spec := "shipRises", apart := false, narrowed := true }
def ShipRisesUptoSaid : Prop := shipRisesUptoRow.holds Try.pinned (OpenSpec.upto shipRisesSpec)

/-- 'outriderlaw23.ShipKnown', WHERE WHAT IT READS IS OF BULK AT MOST 1048576: true; the input reads as it did. -/
def shipKnownUptoRow : OpenClaim := { program := "ytmkoabalakfehaa", sum := "9eeb72d5e2ad5bc1b33ab49383840967c37fc0e4be5a09f694cdace659eacdf1", func := "outrider/outriderlaw23.ShipKnown", spec := "shipKnown", apart := false, narrowed := true }
def ShipKnownUptoSaid : Prop := shipKnownUptoRow.holds Try.pinned (OpenSpec.upto shipKnownSpec)

/-- 'outriderlaw23.ShipSays', WHERE WHAT IT READS IS OF BULK AT MOST 1048576: true; the input reads as it did. -/
def shipSaysUptoRow : OpenClaim := { program := "ytmkoabalakfehaa", sum := "9eeb72d5e2ad5bc1b33ab49383840967c37fc0e4be5a09f694cdace659eacdf1", func := "outrider/outriderlaw23.ShipSays", spec := "shipSays", apart := false, narrowed := true }
def ShipSaysUptoSaid : Prop := shipSaysUptoRow.holds Try.pinned (OpenSpec.upto shipSaysSpec)

/-- 'outriderlaw23.ShipFits', WHERE WHAT IT READS IS OF BULK AT MOST 1048576: true; the input reads as it did. -/
def shipFitsUptoRow : OpenClaim := { program := "ytmkoabalakfehaa", sum := "9eeb72d5e2ad5bc1b33ab49383840967c37fc0e4be5a09f694cdace659eacdf1", func := "outrider/outriderlaw23.ShipFits", spec := "shipFits", unfollowed := true, recurses := true, apart := false, narrowed := true }
def ShipFitsUptoSaid : Prop := shipFitsUptoRow.holds Try.pinned (OpenSpec.upto shipFitsSpec)

end Rows
end Go.Proofs.Ytmkoabalakfehaa
