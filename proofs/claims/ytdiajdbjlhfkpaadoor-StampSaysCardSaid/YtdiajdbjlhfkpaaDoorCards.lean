/-
  DERIVED. GIVEN WITH THE SEED: THE CARDS: each row of YtdiajdbjlhfkpaaDoorRows.lean that lists a variable, with what it lists TIED to the program's text (the seventh form; the later family's looks); each row that meets fmt, with fmt's text TOLD by the authors' own Lean function (tested against real Go, not proved from fmt's source: count such statements apart). THE CARD IS WHAT COUNTS. Prove the row's statement (the work); the ties are given (YtdiajdbjlhfkpaaDoorTie.lean); close each card by the builder's one call (the guide's Derived/Test/ToyasCard.lean, 'card_holds'). Laid BY PROGRAM, IN A SANDBOX (cutbox-door.mjs). By AI agents, Wed Nov 11 2026. No macro, syntax, notation, axiom, sorry.
-/
import Derived.Test.YtdiajdbjlhfkpaaDoorRows
import GoSem.ClaimSeven
namespace Go.Proofs.YtdiajdbjlhfkpaaDoor
namespace Rows

/-- THE TIED CARD OF 'outriderlaw1.StampWide'. -/
def stampWideCard : Claim7 := { stood := { row := stampWideRow, standIns := [], harness := (true, "cb0e788e59ff079a7dbd6b96d3c8476b67ef4441142c50de523cf9ca12fb466c"), looks := true }, kinds := [], alts := [], laidByText := true, laidKinds := [.data, .data, .data], laidTests := true, laidLooks := .later }
def StampWideCardSaid : Prop := Claim7.holds Tryd.pinned (.plain (OpenSpec.ofChange stampWideSpec)) stampWideCard

/-- THE TIED CARD OF 'outriderlaw1.StampOrder'. -/
def stampOrderCard : Claim7 := { stood := { row := stampOrderRow, standIns := [], harness := (true, "cb0e788e59ff079a7dbd6b96d3c8476b67ef4441142c50de523cf9ca12fb466c"), looks := true }, kinds := [], alts := [], laidByText := true, laidKinds := [.data, .data, .data], laidTests := true, laidLooks := .later }
def StampOrderCardSaid : Prop := Claim7.holds Tryd.pinned (.plain (OpenSpec.ofChange stampOrderSpec)) stampOrderCard

/-- THE TIED CARD OF 'outriderlaw1.StampSteps'. -/
def stampStepsCard : Claim7 := { stood := { row := stampStepsRow, standIns := [], harness := (true, "cb0e788e59ff079a7dbd6b96d3c8476b67ef4441142c50de523cf9ca12fb466c"), looks := true }, kinds := [], alts := [], laidByText := true, laidKinds := [.data, .data, .data], laidTests := true, laidLooks := .later }
def StampStepsCardSaid : Prop := Claim7.holds Tryd.pinned (.plain (OpenSpec.ofChange stampStepsSpec)) stampStepsCard

/-- THE TIED CARD OF 'outriderlaw1.StampFolds'. -/
def stampFoldsCard : Claim7 := { stood := { row := stampFoldsRow, standIns := [], harness := (true, "cb0e788e59ff079a7dbd6b96d3c8476b67ef4441142c50de523cf9ca12fb466c"), looks := true }, kinds := [], alts := [], laidByText := true, laidKinds := [.data, .data, .data], laidTests := true, laidLooks := .later }
def StampFoldsCardSaid : Prop := Claim7.holds Tryd.pinned (.plain (OpenSpec.ofChange stampFoldsSpec)) stampFoldsCard

/-- THE TIED CARD OF 'outriderlaw1.StampBack'. -/
def stampBackCard : Claim7 := { stood := { row := stampBackRow, standIns := [], harness := (true, "cb0e788e59ff079a7dbd6b96d3c8476b67ef4441142c50de523cf9ca12fb466c"), looks := true }, kinds := [], alts := [], laidByText := true, laidKinds := [.data, .data, .data, .sentinel, .sentinel], laidTests := true, laidLooks := .later }
def StampBackCardSaid : Prop := Claim7.holds Tryd.pinned (.plain (OpenSpec.ofChange stampBackSpec)) stampBackCard

/-- THE TIED CARD OF 'outriderlaw1.StampKnown'. -/
def stampKnownCard : Claim7 := { stood := { row := stampKnownRow, standIns := [], harness := (true, "cb0e788e59ff079a7dbd6b96d3c8476b67ef4441142c50de523cf9ca12fb466c"), looks := true }, kinds := [], alts := [], laidByText := true, laidKinds := [.data, .data, .data, .sentinel, .sentinel], laidTests := true, laidLooks := .later }
def StampKnownCardSaid : Prop := Claim7.holds Tryd.pinned (.plain (OpenSpec.ofChange stampKnownSpec)) stampKnownCard

/-- THE TIED CARD OF 'outriderlaw1.StampSays'. -/
def stampSaysCard : Claim7 := { stood := { row := stampSaysRow, standIns := [], harness := (true, "cb0e788e59ff079a7dbd6b96d3c8476b67ef4441142c50de523cf9ca12fb466c"), looks := true }, kinds := [], alts := [], laidByText := true, laidKinds := [.data, .data, .data, .sentinel, .sentinel], laidTests := true, laidLooks := .later }
def StampSaysCardSaid : Prop := Claim7.holds Tryd.pinned (.plain (OpenSpec.ofChange stampSaysSpec)) stampSaysCard

/-- THE SECOND FORM's CARD OF 'outriderlaw1.StampWide'. -/
def stampWideUptoCard : Claim7 := { stood := { row := stampWideUptoRow, standIns := [], harness := (true, "cb0e788e59ff079a7dbd6b96d3c8476b67ef4441142c50de523cf9ca12fb466c"), looks := true }, kinds := [], alts := [], laidByText := true, laidKinds := [.data, .data, .data], laidTests := true, laidLooks := .later }
def StampWideUptoCardSaid : Prop := Claim7.holds Tryd.pinned (.plain (OpenSpec.upto stampWideSpec)) stampWideUptoCard

/-- THE SECOND FORM's CARD OF 'outriderlaw1.StampOrder'. -/
def stampOrderUptoCard : Claim7 := { stood := { row := stampOrderUptoRow, standIns := [], harness := (true, "cb0e788e59ff079a7dbd6b96d3c8476b67ef4441142c50de523cf9ca12fb466c"), looks := true }, kinds := [], alts := [], laidByText := true, laidKinds := [.data, .data, .data], laidTests := true, laidLooks := .later }
def StampOrderUptoCardSaid : Prop := Claim7.holds Tryd.pinned (.plain (OpenSpec.upto stampOrderSpec)) stampOrderUptoCard

/-- THE SECOND FORM's CARD OF 'outriderlaw1.StampSteps'. -/
def stampStepsUptoCard : Claim7 := { stood := { row := stampStepsUptoRow, standIns := [], harness := (true, "cb0e788e59ff079a7dbd6b96d3c8476b67ef4441142c50de523cf9ca12fb466c"), looks := true }, kinds := [], alts := [], laidByText := true, laidKinds := [.data, .data, .data], laidTests := true, laidLooks := .later }
def StampStepsUptoCardSaid : Prop := Claim7.holds Tryd.pinned (.plain (OpenSpec.upto stampStepsSpec)) stampStepsUptoCard

/-- THE SECOND FORM's CARD OF 'outriderlaw1.StampFolds'. -/
def stampFoldsUptoCard : Claim7 := { stood := { row := stampFoldsUptoRow, standIns := [], harness := (true, "cb0e788e59ff079a7dbd6b96d3c8476b67ef4441142c50de523cf9ca12fb466c"), looks := true }, kinds := [], alts := [], laidByText := true, laidKinds := [.data, .data, .data], laidTests := true, laidLooks := .later }
def StampFoldsUptoCardSaid : Prop := Claim7.holds Tryd.pinned (.plain (OpenSpec.upto stampFoldsSpec)) stampFoldsUptoCard

/-- THE SECOND FORM's CARD OF 'outriderlaw1.StampBack'. -/
def stampBackUptoCard : Claim7 := { stood := { row := stampBackUptoRow, standIns := [], harness := (true, "cb0e788e59ff079a7dbd6b96d3c8476b67ef4441142c50de523cf9ca12fb466c"), looks := true }, kinds := [], alts := [], laidByText := true, laidKinds := [.data, .data, .data, .sentinel, .sentinel], laidTests := true, laidLooks := .later }
def StampBackUptoCardSaid : Prop := Claim7.holds Tryd.pinned (.plain (OpenSpec.upto stampBackSpec)) stampBackUptoCard

/-- THE SECOND FORM's CARD OF 'outriderlaw1.StampKnown'. -/
def stampKnownUptoCard : Claim7 := { stood := { row := stampKnownUptoRow, standIns := [], harness := (true, "cb0e788e59ff079a7dbd6b96d3c8476b67ef4441142c50de523cf9ca12fb466c"), looks := true }, kinds := [], alts := [], laidByText := true, laidKinds := [.data, .data, .data, .sentinel, .sentinel], laidTests := true, laidLooks := .later }
def StampKnownUptoCardSaid : Prop := Claim7.holds Tryd.pinned (.plain (OpenSpec.upto stampKnownSpec)) stampKnownUptoCard

/-- THE SECOND FORM's CARD OF 'outriderlaw1.StampSays'. -/
def stampSaysUptoCard : Claim7 := { stood := { row := stampSaysUptoRow, standIns := [], harness := (true, "cb0e788e59ff079a7dbd6b96d3c8476b67ef4441142c50de523cf9ca12fb466c"), looks := true }, kinds := [], alts := [], laidByText := true, laidKinds := [.data, .data, .data, .sentinel, .sentinel], laidTests := true, laidLooks := .later }
def StampSaysUptoCardSaid : Prop := Claim7.holds Tryd.pinned (.plain (OpenSpec.upto stampSaysSpec)) stampSaysUptoCard
end Rows
end Go.Proofs.YtdiajdbjlhfkpaaDoor
