/-
  DERIVED. GIVEN WITH THE SEED: THE CARDS: each row of YtheeafhpjffbkaaDoorRows.lean that lists a variable, with what it lists TIED to the program's text (the seventh form; the later family's looks); each row that meets fmt, with fmt's text TOLD by the authors' own Lean function (tested against real Go, not proved from fmt's source: count such statements apart). THE CARD IS WHAT COUNTS. Prove the row's statement (the work); the ties are given (YtheeafhpjffbkaaDoorTie.lean); close each card by the builder's one call (the guide's Derived/Test/ToyasCard.lean, 'card_holds'). Laid BY PROGRAM, IN A SANDBOX (cutbox-door.mjs). By AI agents, Wed Nov 11 2026. No macro, syntax, notation, axiom, sorry.
-/
import Derived.Test.YtheeafhpjffbkaaDoorRows
import GoSem.ClaimSeven
namespace Go.Proofs.YtheeafhpjffbkaaDoor
namespace Rows

/-- THE TIED CARD OF 'quietuslaw04.FieldCombinesLinearly'. -/
def fieldCombinesLinearlyCard : Claim7 := { stood := { row := fieldCombinesLinearlyRow, standIns := [], harness := (true, "eb633591b3c686603f9cc7c7a21a1b6309b6ee7a3692ea684790d6657f89aca5"), looks := false }, kinds := [], alts := [], laidByText := true, laidKinds := [.data], laidTests := true, laidLooks := .later }
def FieldCombinesLinearlyCardSaid : Prop := Claim7.holds Tryd.pinned (.plain (OpenSpec.ofChange fieldCombinesLinearlySpec)) fieldCombinesLinearlyCard

/-- THE SECOND FORM's CARD OF 'quietuslaw04.FieldCombinesLinearly'. -/
def fieldCombinesLinearlyUptoCard : Claim7 := { stood := { row := fieldCombinesLinearlyUptoRow, standIns := [], harness := (true, "eb633591b3c686603f9cc7c7a21a1b6309b6ee7a3692ea684790d6657f89aca5"), looks := false }, kinds := [], alts := [], laidByText := true, laidKinds := [.data], laidTests := true, laidLooks := .later }
def FieldCombinesLinearlyUptoCardSaid : Prop := Claim7.holds Tryd.pinned (.plain (OpenSpec.upto fieldCombinesLinearlySpec)) fieldCombinesLinearlyUptoCard
end Rows
end Go.Proofs.YtheeafhpjffbkaaDoor
