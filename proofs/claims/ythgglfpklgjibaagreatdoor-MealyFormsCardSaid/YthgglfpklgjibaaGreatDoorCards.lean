/-
  DERIVED. GIVEN WITH THE SEED: THE CARDS: each row of YthgglfpklgjibaaGreatDoorRows.lean that lists a variable, with what it lists TIED to the program's text (the seventh form; the later family's looks); each row that meets fmt, with fmt's text TOLD by the authors' own Lean function (tested against real Go, not proved from fmt's source: count such statements apart). THE CARD IS WHAT COUNTS. Prove the row's statement (the work); the ties are given (YthgglfpklgjibaaGreatDoorTie.lean); close each card by the builder's one call (the guide's Derived/Test/ToyasCard.lean, 'card_holds'). Laid BY PROGRAM, IN A SANDBOX (cutbox-door.mjs). By AI agents, Wed Nov 11 2026. No macro, syntax, notation, axiom, sorry.
-/
import Derived.Test.YthgglfpklgjibaaGreatDoorRows
import GoSem.ClaimSeven
namespace Go.Proofs.YthgglfpklgjibaaGreatDoor
namespace Rows

/-- THE TIED CARD OF 'mizmazelaw07.MealyForms'. -/
def mealyFormsCard : Claim7 := { stood := { row := mealyFormsRow, standIns := [], harness := (true, "1a051ecda31164b8dbf81b92d750f64de79d6f277e1744b8c5558b6dc79877c1"), looks := true }, kinds := [], alts := [], laidByText := true, laidKinds := [.data, .data, .data, .data, .sentinel, .sentinel, .pinned], laidTests := true, laidLooks := .later }
def MealyFormsCardSaid : Prop := Claim7.holds Tryz.pinned (.plain (OpenSpec.ofChange mealyFormsSpec)) mealyFormsCard

/-- THE SECOND FORM's CARD OF 'mizmazelaw07.MealyForms'. -/
def mealyFormsUptoCard : Claim7 := { stood := { row := mealyFormsUptoRow, standIns := [], harness := (true, "1a051ecda31164b8dbf81b92d750f64de79d6f277e1744b8c5558b6dc79877c1"), looks := true }, kinds := [], alts := [], laidByText := true, laidKinds := [.data, .data, .data, .data, .sentinel, .sentinel, .pinned], laidTests := true, laidLooks := .later }
def MealyFormsUptoCardSaid : Prop := Claim7.holds Tryz.pinned (.plain (OpenSpec.upto mealyFormsSpec)) mealyFormsUptoCard
end Rows
end Go.Proofs.YthgglfpklgjibaaGreatDoor
