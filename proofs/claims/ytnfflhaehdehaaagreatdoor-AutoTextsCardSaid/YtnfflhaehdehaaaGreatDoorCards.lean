/-
  DERIVED. GIVEN WITH THE SEED: THE CARDS: each row of YtnfflhaehdehaaaGreatDoorRows.lean that lists a variable, with what it lists TIED to the program's text (the seventh form; the later family's looks); each row that meets fmt, with fmt's text TOLD by the authors' own Lean function (tested against real Go, not proved from fmt's source: count such statements apart). THE CARD IS WHAT COUNTS. Prove the row's statement (the work); the ties are given (YtnfflhaehdehaaaGreatDoorTie.lean); close each card by the builder's one call (the guide's Derived/Test/ToyasCard.lean, 'card_holds'). Laid BY PROGRAM, IN A SANDBOX (cutbox-door.mjs). By AI agents, Wed Nov 11 2026. No macro, syntax, notation, axiom, sorry.
-/
import Derived.Test.YtnfflhaehdehaaaGreatDoorRows
import GoSem.ClaimSeven
namespace Go.Proofs.YtnfflhaehdehaaaGreatDoor
namespace Rows

/-- THE TIED CARD OF 'mizmazelaw01.AutoRuns'. -/
def autoRunsCard : Claim7 := { stood := { row := autoRunsRow, standIns := [], harness := (true, "7223ebd498cec74ba500faa2af9a924b3c65b545e0cb0d92db824d3ebd1e5d03"), looks := true }, kinds := [], alts := [], laidByText := true, laidKinds := [.data, .data, .data, .data, .sentinel, .sentinel, .pinned], laidTests := true, laidLooks := .later }
def AutoRunsCardSaid : Prop := Claim7.holds Tryz.pinned (.plain (OpenSpec.ofChange autoRunsSpec)) autoRunsCard

/-- THE TIED CARD OF 'mizmazelaw01.AutoSets'. -/
def autoSetsCard : Claim7 := { stood := { row := autoSetsRow, standIns := [], harness := (true, "7223ebd498cec74ba500faa2af9a924b3c65b545e0cb0d92db824d3ebd1e5d03"), looks := true }, kinds := [], alts := [], laidByText := true, laidKinds := [.data, .data, .data, .data, .sentinel, .sentinel, .pinned], laidTests := true, laidLooks := .later }
def AutoSetsCardSaid : Prop := Claim7.holds Tryz.pinned (.plain (OpenSpec.ofChange autoSetsSpec)) autoSetsCard

/-- THE TIED CARD OF 'mizmazelaw01.AutoParts'. -/
def autoPartsCard : Claim7 := { stood := { row := autoPartsRow, standIns := [], harness := (true, "7223ebd498cec74ba500faa2af9a924b3c65b545e0cb0d92db824d3ebd1e5d03"), looks := true }, kinds := [], alts := [], laidByText := true, laidKinds := [.data, .data, .data, .data, .sentinel, .sentinel, .pinned], laidTests := true, laidLooks := .later }
def AutoPartsCardSaid : Prop := Claim7.holds Tryz.pinned (.plain (OpenSpec.ofChange autoPartsSpec)) autoPartsCard

/-- THE TIED CARD OF 'mizmazelaw01.AutoUnions'. -/
def autoUnionsCard : Claim7 := { stood := { row := autoUnionsRow, standIns := [], harness := (true, "7223ebd498cec74ba500faa2af9a924b3c65b545e0cb0d92db824d3ebd1e5d03"), looks := true }, kinds := [], alts := [], laidByText := true, laidKinds := [.data, .data, .data, .data, .sentinel, .sentinel, .pinned], laidTests := true, laidLooks := .later }
def AutoUnionsCardSaid : Prop := Claim7.holds Tryz.pinned (.plain (OpenSpec.ofChange autoUnionsSpec)) autoUnionsCard

/-- THE TIED CARD OF 'mizmazelaw01.AutoMakes'. -/
def autoMakesCard : Claim7 := { stood := { row := autoMakesRow, standIns := [], harness := (true, "7223ebd498cec74ba500faa2af9a924b3c65b545e0cb0d92db824d3ebd1e5d03"), looks := true }, kinds := [], alts := [], laidByText := true, laidKinds := [.data, .data, .data, .data, .sentinel, .sentinel, .pinned], laidTests := true, laidLooks := .later }
def AutoMakesCardSaid : Prop := Claim7.holds Tryz.pinned (.plain (OpenSpec.ofChange autoMakesSpec)) autoMakesCard

/-- THE TIED CARD OF 'mizmazelaw01.AutoNames'. -/
def autoNamesCard : Claim7 := { stood := { row := autoNamesRow, standIns := [], harness := (true, "7223ebd498cec74ba500faa2af9a924b3c65b545e0cb0d92db824d3ebd1e5d03"), looks := true }, kinds := [], alts := [], laidByText := true, laidKinds := [.data, .data, .data, .data, .sentinel, .sentinel, .pinned], laidTests := true, laidLooks := .later }
def AutoNamesCardSaid : Prop := Claim7.holds Tryz.pinned (.plain (OpenSpec.ofChange autoNamesSpec)) autoNamesCard

/-- THE TIED CARD OF 'mizmazelaw01.AutoTexts'. -/
def autoTextsCard : Claim7 := { stood := { row := autoTextsRow, standIns := [], harness := (true, "7223ebd498cec74ba500faa2af9a924b3c65b545e0cb0d92db824d3ebd1e5d03"), looks := true }, kinds := [], alts := [], laidByText := true, laidKinds := [.data, .data, .data, .data, .sentinel, .sentinel, .pinned], laidTests := true, laidLooks := .later }
def AutoTextsCardSaid : Prop := Claim7.holds Tryz.pinned (.plain (OpenSpec.ofChange autoTextsSpec)) autoTextsCard

/-- THE SECOND FORM's CARD OF 'mizmazelaw01.AutoRuns'. -/
def autoRunsUptoCard : Claim7 := { stood := { row := autoRunsUptoRow, standIns := [], harness := (true, "7223ebd498cec74ba500faa2af9a924b3c65b545e0cb0d92db824d3ebd1e5d03"), looks := true }, kinds := [], alts := [], laidByText := true, laidKinds := [.data, .data, .data, .data, .sentinel, .sentinel, .pinned], laidTests := true, laidLooks := .later }
def AutoRunsUptoCardSaid : Prop := Claim7.holds Tryz.pinned (.plain (OpenSpec.upto autoRunsSpec)) autoRunsUptoCard

/-- THE SECOND FORM's CARD OF 'mizmazelaw01.AutoSets'. -/
def autoSetsUptoCard : Claim7 := { stood := { row := autoSetsUptoRow, standIns := [], harness := (true, "7223ebd498cec74ba500faa2af9a924b3c65b545e0cb0d92db824d3ebd1e5d03"), looks := true }, kinds := [], alts := [], laidByText := true, laidKinds := [.data, .data, .data, .data, .sentinel, .sentinel, .pinned], laidTests := true, laidLooks := .later }
def AutoSetsUptoCardSaid : Prop := Claim7.holds Tryz.pinned (.plain (OpenSpec.upto autoSetsSpec)) autoSetsUptoCard

/-- THE SECOND FORM's CARD OF 'mizmazelaw01.AutoParts'. -/
def autoPartsUptoCard : Claim7 := { stood := { row := autoPartsUptoRow, standIns := [], harness := (true, "7223ebd498cec74ba500faa2af9a924b3c65b545e0cb0d92db824d3ebd1e5d03"), looks := true }, kinds := [], alts := [], laidByText := true, laidKinds := [.data, .data, .data, .data, .sentinel, .sentinel, .pinned], laidTests := true, laidLooks := .later }
def AutoPartsUptoCardSaid : Prop := Claim7.holds Tryz.pinned (.plain (OpenSpec.upto autoPartsSpec)) autoPartsUptoCard

/-- THE SECOND FORM's CARD OF 'mizmazelaw01.AutoUnions'. -/
def autoUnionsUptoCard : Claim7 := { stood := { row := autoUnionsUptoRow, standIns := [], harness := (true, "7223ebd498cec74ba500faa2af9a924b3c65b545e0cb0d92db824d3ebd1e5d03"), looks := true }, kinds := [], alts := [], laidByText := true, laidKinds := [.data, .data, .data, .data, .sentinel, .sentinel, .pinned], laidTests := true, laidLooks := .later }
def AutoUnionsUptoCardSaid : Prop := Claim7.holds Tryz.pinned (.plain (OpenSpec.upto autoUnionsSpec)) autoUnionsUptoCard

/-- THE SECOND FORM's CARD OF 'mizmazelaw01.AutoMakes'. -/
def autoMakesUptoCard : Claim7 := { stood := { row := autoMakesUptoRow, standIns := [], harness := (true, "7223ebd498cec74ba500faa2af9a924b3c65b545e0cb0d92db824d3ebd1e5d03"), looks := true }, kinds := [], alts := [], laidByText := true, laidKinds := [.data, .data, .data, .data, .sentinel, .sentinel, .pinned], laidTests := true, laidLooks := .later }
def AutoMakesUptoCardSaid : Prop := Claim7.holds Tryz.pinned (.plain (OpenSpec.upto autoMakesSpec)) autoMakesUptoCard

/-- THE SECOND FORM's CARD OF 'mizmazelaw01.AutoNames'. -/
def autoNamesUptoCard : Claim7 := { stood := { row := autoNamesUptoRow, standIns := [], harness := (true, "7223ebd498cec74ba500faa2af9a924b3c65b545e0cb0d92db824d3ebd1e5d03"), looks := true }, kinds := [], alts := [], laidByText := true, laidKinds := [.data, .data, .data, .data, .sentinel, .sentinel, .pinned], laidTests := true, laidLooks := .later }
def AutoNamesUptoCardSaid : Prop := Claim7.holds Tryz.pinned (.plain (OpenSpec.upto autoNamesSpec)) autoNamesUptoCard

/-- THE SECOND FORM's CARD OF 'mizmazelaw01.AutoTexts'. -/
def autoTextsUptoCard : Claim7 := { stood := { row := autoTextsUptoRow, standIns := [], harness := (true, "7223ebd498cec74ba500faa2af9a924b3c65b545e0cb0d92db824d3ebd1e5d03"), looks := true }, kinds := [], alts := [], laidByText := true, laidKinds := [.data, .data, .data, .data, .sentinel, .sentinel, .pinned], laidTests := true, laidLooks := .later }
def AutoTextsUptoCardSaid : Prop := Claim7.holds Tryz.pinned (.plain (OpenSpec.upto autoTextsSpec)) autoTextsUptoCard
end Rows
end Go.Proofs.YtnfflhaehdehaaaGreatDoor
