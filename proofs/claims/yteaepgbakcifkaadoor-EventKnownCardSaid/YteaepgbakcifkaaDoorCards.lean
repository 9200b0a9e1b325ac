/-
  DERIVED. GIVEN WITH THE SEED: THE CARDS: each row of YteaepgbakcifkaaDoorRows.lean that lists a variable, with what it lists TIED to the program's text (the seventh form; the later family's looks); each row that meets fmt, with fmt's text TOLD by the authors' own Lean function (tested against real Go, not proved from fmt's source: count such statements apart). THE CARD IS WHAT COUNTS. Prove the row's statement (the work); the ties are given (YteaepgbakcifkaaDoorTie.lean); close each card by the builder's one call (the guide's Derived/Test/ToyasCard.lean, 'card_holds'). Laid BY PROGRAM, IN A SANDBOX (cutbox-door.mjs). By AI agents, Wed Nov 11 2026. No macro, syntax, notation, axiom, sorry.
-/
import Derived.Test.YteaepgbakcifkaaDoorRows
import GoSem.ClaimSeven
namespace Go.Proofs.YteaepgbakcifkaaDoor
namespace Rows

/-- THE TIED CARD OF 'outriderlaw15.EventKnown'. -/
def eventKnownCard : Claim7 := { stood := { row := eventKnownRow, standIns := [], harness := (true, "5cd2bd66435d3bebdda2f3b6b8e787a9deb12bb51bdda7b20ec084ce35715f6f"), looks := false }, kinds := [], alts := [], laidByText := true, laidKinds := [.data, .data, .data, .data, .pinned], laidTests := true, laidLooks := .later }
def EventKnownCardSaid : Prop := Claim7.holds Tryd.pinned (.plain (OpenSpec.ofChange eventKnownSpec)) eventKnownCard

/-- THE TIED CARD OF 'outriderlaw15.EventSays'. -/
def eventSaysCard : Claim7 := { stood := { row := eventSaysRow, standIns := [], harness := (true, "5cd2bd66435d3bebdda2f3b6b8e787a9deb12bb51bdda7b20ec084ce35715f6f"), looks := false }, kinds := [], alts := [], laidByText := true, laidKinds := [.data, .data, .data, .data, .pinned], laidTests := true, laidLooks := .later }
def EventSaysCardSaid : Prop := Claim7.holds Tryd.pinned (.plain (OpenSpec.ofChange eventSaysSpec)) eventSaysCard

/-- THE TIED CARD OF 'outriderlaw15.EventBack'. -/
def eventBackCard : Claim7 := { stood := { row := eventBackRow, standIns := [], harness := (true, "5cd2bd66435d3bebdda2f3b6b8e787a9deb12bb51bdda7b20ec084ce35715f6f"), looks := false }, kinds := [], alts := [], laidByText := true, laidKinds := [.data, .data, .data, .data, .pinned], laidTests := true, laidLooks := .later }
def EventBackCardSaid : Prop := Claim7.holds Tryd.pinned (.plain (OpenSpec.ofChange eventBackSpec)) eventBackCard

/-- THE TIED CARD OF 'outriderlaw15.EventSame'. -/
def eventSameCard : Claim7 := { stood := { row := eventSameRow, standIns := [], harness := (true, "5cd2bd66435d3bebdda2f3b6b8e787a9deb12bb51bdda7b20ec084ce35715f6f"), looks := false }, kinds := [], alts := [], laidByText := true, laidKinds := [.data, .data, .data, .data, .pinned], laidTests := true, laidLooks := .later }
def EventSameCardSaid : Prop := Claim7.holds Tryd.pinned (.plain (OpenSpec.ofChange eventSameSpec)) eventSameCard

/-- THE SECOND FORM's CARD OF 'outriderlaw15.EventKnown'. -/
def eventKnownUptoCard : Claim7 := { stood := { row := eventKnownUptoRow, standIns := [], harness := (true, "5cd2bd66435d3bebdda2f3b6b8e787a9deb12bb51bdda7b20ec084ce35715f6f"), looks := false }, kinds := [], alts := [], laidByText := true, laidKinds := [.data, .data, .data, .data, .pinned], laidTests := true, laidLooks := .later }
def EventKnownUptoCardSaid : Prop := Claim7.holds Tryd.pinned (.plain (OpenSpec.upto eventKnownSpec)) eventKnownUptoCard

/-- THE SECOND FORM's CARD OF 'outriderlaw15.EventSays'. -/
def eventSaysUptoCard : Claim7 := { stood := { row := eventSaysUptoRow, standIns := [], harness := (true, "5cd2bd66435d3bebdda2f3b6b8e787a9deb12bb51bdda7b20ec084ce35715f6f"), looks := false }, kinds := [], alts := [], laidByText := true, laidKinds := [.data, .data, .data, .data, .pinned], laidTests := true, laidLooks := .later }
def EventSaysUptoCardSaid : Prop := Claim7.holds Tryd.pinned (.plain (OpenSpec.upto eventSaysSpec)) eventSaysUptoCard

/-- THE SECOND FORM's CARD OF 'outriderlaw15.EventBack'. -/
def eventBackUptoCard : Claim7 := { stood := { row := eventBackUptoRow, standIns := [], harness := (true, "5cd2bd66435d3bebdda2f3b6b8e787a9deb12bb51bdda7b20ec084ce35715f6f"), looks := false }, kinds := [], alts := [], laidByText := true, laidKinds := [.data, .data, .data, .data, .pinned], laidTests := true, laidLooks := .later }
def EventBackUptoCardSaid : Prop := Claim7.holds Tryd.pinned (.plain (OpenSpec.upto eventBackSpec)) eventBackUptoCard

/-- THE SECOND FORM's CARD OF 'outriderlaw15.EventSame'. -/
def eventSameUptoCard : Claim7 := { stood := { row := eventSameUptoRow, standIns := [], harness := (true, "5cd2bd66435d3bebdda2f3b6b8e787a9deb12bb51bdda7b20ec084ce35715f6f"), looks := false }, kinds := [], alts := [], laidByText := true, laidKinds := [.data, .data, .data, .data, .pinned], laidTests := true, laidLooks := .later }
def EventSameUptoCardSaid : Prop := Claim7.holds Tryd.pinned (.plain (OpenSpec.upto eventSameSpec)) eventSameUptoCard
end Rows
end Go.Proofs.YteaepgbakcifkaaDoor
