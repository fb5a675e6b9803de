/-
  DERIVED. GIVEN WITH THE SEED: THE CARDS: each row of YtkbiffbmjgmcaaaDoorRows.lean that lists a variable, with what it lists TIED to the program's text (the seventh form; the later family's looks); each row that meets fmt, with fmt's text TOLD by the authors' own Lean function (tested against real Go, not proved from fmt's source: count such statements apart). THE CARD IS WHAT COUNTS. Prove the row's statement (the work); the ties are given (YtkbiffbmjgmcaaaDoorTie.lean); close each card by the builder's one call (the guide's Derived/Test/ToyasCard.lean, 'card_holds'). Laid BY PROGRAM, IN A SANDBOX (cutbox-door.mjs). By AI agents, Wed Nov 11 2026. No macro, syntax, notation, axiom, sorry.
-/
import Derived.Test.YtkbiffbmjgmcaaaDoorRows
import GoSem.ClaimSeven
namespace Go.Proofs.YtkbiffbmjgmcaaaDoor
namespace Rows

/-- THE TIED CARD OF 'quietuslaw13.MovesCheckAsSpecified'. -/
def movesCheckAsSpecifiedCard : Claim7 := { stood := { row := movesCheckAsSpecifiedRow, standIns := [], harness := (true, "012d7f10f80ff0b0ee2c6b58bf10b8965f08ba84a7acd43986d6d455f40cc84f"), looks := false }, kinds := [], alts := [], laidByText := true, laidKinds := [.data], laidTests := true, laidLooks := .later }
def MovesCheckAsSpecifiedCardSaid : Prop := Claim7.holds Tryd.pinned (.plain (OpenSpec.ofChange movesCheckAsSpecifiedSpec)) movesCheckAsSpecifiedCard

/-- THE TIED CARD OF 'quietuslaw13.MovesPlanAsSpecified'. -/
def movesPlanAsSpecifiedCard : Claim7 := { stood := { row := movesPlanAsSpecifiedRow, standIns := [], harness := (true, "012d7f10f80ff0b0ee2c6b58bf10b8965f08ba84a7acd43986d6d455f40cc84f"), looks := false }, kinds := [], alts := [], laidByText := true, laidKinds := [.data], laidTests := true, laidLooks := .later }
def MovesPlanAsSpecifiedCardSaid : Prop := Claim7.holds Tryd.pinned (.plain (OpenSpec.ofChange movesPlanAsSpecifiedSpec)) movesPlanAsSpecifiedCard

/-- THE TIED CARD OF 'quietuslaw13.MovesGoOn'. -/
def movesGoOnCard : Claim7 := { stood := { row := movesGoOnRow, standIns := [], harness := (true, "012d7f10f80ff0b0ee2c6b58bf10b8965f08ba84a7acd43986d6d455f40cc84f"), looks := false }, kinds := [], alts := [], laidByText := true, laidKinds := [.data], laidTests := true, laidLooks := .later }
def MovesGoOnCardSaid : Prop := Claim7.holds Tryd.pinned (.plain (OpenSpec.ofChange movesGoOnSpec)) movesGoOnCard

/-- THE TIED CARD OF 'quietuslaw13.MovesRelax'. -/
def movesRelaxCard : Claim7 := { stood := { row := movesRelaxRow, standIns := [], harness := (true, "012d7f10f80ff0b0ee2c6b58bf10b8965f08ba84a7acd43986d6d455f40cc84f"), looks := false }, kinds := [], alts := [], laidByText := true, laidKinds := [.data], laidTests := true, laidLooks := .later }
def MovesRelaxCardSaid : Prop := Claim7.holds Tryd.pinned (.plain (OpenSpec.ofChange movesRelaxSpec)) movesRelaxCard

/-- THE TIED CARD OF 'quietuslaw13.MovesKeepTheFloor'. -/
def movesKeepTheFloorCard : Claim7 := { stood := { row := movesKeepTheFloorRow, standIns := [], harness := (true, "012d7f10f80ff0b0ee2c6b58bf10b8965f08ba84a7acd43986d6d455f40cc84f"), looks := false }, kinds := [], alts := [], laidByText := true, laidKinds := [.data], laidTests := true, laidLooks := .later }
def MovesKeepTheFloorCardSaid : Prop := Claim7.holds Tryd.pinned (.plain (OpenSpec.ofChange movesKeepTheFloorSpec)) movesKeepTheFloorCard

/-- THE SECOND FORM's CARD OF 'quietuslaw13.MovesCheckAsSpecified'. -/
def movesCheckAsSpecifiedUptoCard : Claim7 := { stood := { row := movesCheckAsSpecifiedUptoRow, standIns := [], harness := (true, "012d7f10f80ff0b0ee2c6b58bf10b8965f08ba84a7acd43986d6d455f40cc84f"), looks := false }, kinds := [], alts := [], laidByText := true, laidKinds := [.data], laidTests := true, laidLooks := .later }
def MovesCheckAsSpecifiedUptoCardSaid : Prop := Claim7.holds Tryd.pinned (.plain (OpenSpec.upto movesCheckAsSpecifiedSpec)) movesCheckAsSpecifiedUptoCard

/-- THE SECOND FORM's CARD OF 'quietuslaw13.MovesPlanAsSpecified'. -/
def movesPlanAsSpecifiedUptoCard : Claim7 := { stood := { row := movesPlanAsSpecifiedUptoRow, standIns := [], harness := (true, "012d7f10f80ff0b0ee2c6b58bf10b8965f08ba84a7acd43986d6d455f40cc84f"), looks := false }, kinds := [], alts := [], laidByText := true, laidKinds := [.data], laidTests := true, laidLooks := .later }
def MovesPlanAsSpecifiedUptoCardSaid : Prop := Claim7.holds Tryd.pinned (.plain (OpenSpec.upto movesPlanAsSpecifiedSpec)) movesPlanAsSpecifiedUptoCard

/-- THE SECOND FORM's CARD OF 'quietuslaw13.MovesGoOn'. -/
def movesGoOnUptoCard : Claim7 := { stood := { row := movesGoOnUptoRow, standIns := [], harness := (true, "012d7f10f80ff0b0ee2c6b58bf10b8965f08ba84a7acd43986d6d455f40cc84f"), looks := false }, kinds := [], alts := [], laidByText := true, laidKinds := [.data], laidTests := true, laidLooks := .later }
def MovesGoOnUptoCardSaid : Prop := Claim7.holds Tryd.pinned (.plain (OpenSpec.upto movesGoOnSpec)) movesGoOnUptoCard

/-- THE SECOND FORM's CARD OF 'quietuslaw13.MovesRelax'. -/
def movesRelaxUptoCard : Claim7 := { stood := { row := movesRelaxUptoRow, standIns := [], harness := (true, "012d7f10f80ff0b0ee2c6b58bf10b8965f08ba84a7acd43986d6d455f40cc84f"), looks := false }, kinds := [], alts := [], laidByText := true, laidKinds := [.data], laidTests := true, laidLooks := .later }
def MovesRelaxUptoCardSaid : Prop := Claim7.holds Tryd.pinned (.plain (OpenSpec.upto movesRelaxSpec)) movesRelaxUptoCard

/-- THE SECOND FORM's CARD OF 'quietuslaw13.MovesKeepTheFloor'. -/
def movesKeepTheFloorUptoCard : Claim7 := { stood := { row := movesKeepTheFloorUptoRow, standIns := [], harness := (true, "012d7f10f80ff0b0ee2c6b58bf10b8965f08ba84a7acd43986d6d455f40cc84f"), looks := false }, kinds := [], alts := [], laidByText := true, laidKinds := [.data], laidTests := true, laidLooks := .later }
def MovesKeepTheFloorUptoCardSaid : Prop := Claim7.holds Tryd.pinned (.plain (OpenSpec.upto movesKeepTheFloorSpec)) movesKeepTheFloorUptoCard
end Rows
end Go.Proofs.YtkbiffbmjgmcaaaDoor
