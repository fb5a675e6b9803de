/-
  DERIVED. GIVEN WITH THE SEED: THE CARDS: each row of YtgkohfmgdejkpaaDoorRows.lean that lists a variable, with what it lists TIED to the program's text (the seventh form; the later family's looks); each row that meets fmt, with fmt's text TOLD by the authors' own Lean function (tested against real Go, not proved from fmt's source: count such statements apart). THE CARD IS WHAT COUNTS. Prove the row's statement (the work); the ties are given (YtgkohfmgdejkpaaDoorTie.lean); close each card by the builder's one call (the guide's Derived/Test/ToyasCard.lean, 'card_holds'). Laid BY PROGRAM, IN A SANDBOX (cutbox-door.mjs). By AI agents, Wed Nov 11 2026. No macro, syntax, notation, axiom, sorry.
-/
import Derived.Test.YtgkohfmgdejkpaaDoorRows
import GoSem.ClaimSeven
namespace Go.Proofs.YtgkohfmgdejkpaaDoor
namespace Rows

/-- THE TIED CARD OF 'quietuslaw07.CodeEncodesAsSpecified'. -/
def codeEncodesAsSpecifiedCard : Claim7 := { stood := { row := codeEncodesAsSpecifiedRow, standIns := [], harness := (true, "5ef61e14026f34c674491436cd9be3c5d1e68f794818f6fef62e45e9e3e35625"), looks := false }, kinds := [], alts := [], laidByText := true, laidKinds := [.data], laidTests := true, laidLooks := .later }
def CodeEncodesAsSpecifiedCardSaid : Prop := Claim7.holds Tryd.pinned (.plain (OpenSpec.ofChange codeEncodesAsSpecifiedSpec)) codeEncodesAsSpecifiedCard

/-- THE TIED CARD OF 'quietuslaw07.CodeDecodesAsSpecified'. -/
def codeDecodesAsSpecifiedCard : Claim7 := { stood := { row := codeDecodesAsSpecifiedRow, standIns := [], harness := (true, "5ef61e14026f34c674491436cd9be3c5d1e68f794818f6fef62e45e9e3e35625"), looks := false }, kinds := [], alts := [], laidByText := true, laidKinds := [.data], laidTests := true, laidLooks := .later }
def CodeDecodesAsSpecifiedCardSaid : Prop := Claim7.holds Tryd.pinned (.plain (OpenSpec.ofChange codeDecodesAsSpecifiedSpec)) codeDecodesAsSpecifiedCard

/-- THE TIED CARD OF 'quietuslaw07.CodeDistanceIsLeast'. -/
def codeDistanceIsLeastCard : Claim7 := { stood := { row := codeDistanceIsLeastRow, standIns := [], harness := (true, "5ef61e14026f34c674491436cd9be3c5d1e68f794818f6fef62e45e9e3e35625"), looks := false }, kinds := [], alts := [], laidByText := true, laidKinds := [.data], laidTests := true, laidLooks := .later }
def CodeDistanceIsLeastCardSaid : Prop := Claim7.holds Tryd.pinned (.plain (OpenSpec.ofChange codeDistanceIsLeastSpec)) codeDistanceIsLeastCard

/-- THE SECOND FORM's CARD OF 'quietuslaw07.CodeEncodesAsSpecified'. -/
def codeEncodesAsSpecifiedUptoCard : Claim7 := { stood := { row := codeEncodesAsSpecifiedUptoRow, standIns := [], harness := (true, "5ef61e14026f34c674491436cd9be3c5d1e68f794818f6fef62e45e9e3e35625"), looks := false }, kinds := [], alts := [], laidByText := true, laidKinds := [.data], laidTests := true, laidLooks := .later }
def CodeEncodesAsSpecifiedUptoCardSaid : Prop := Claim7.holds Tryd.pinned (.plain (OpenSpec.upto codeEncodesAsSpecifiedSpec)) codeEncodesAsSpecifiedUptoCard

/-- THE SECOND FORM's CARD OF 'quietuslaw07.CodeDecodesAsSpecified'. -/
def codeDecodesAsSpecifiedUptoCard : Claim7 := { stood := { row := codeDecodesAsSpecifiedUptoRow, standIns := [], harness := (true, "5ef61e14026f34c674491436cd9be3c5d1e68f794818f6fef62e45e9e3e35625"), looks := false }, kinds := [], alts := [], laidByText := true, laidKinds := [.data], laidTests := true, laidLooks := .later }
def CodeDecodesAsSpecifiedUptoCardSaid : Prop := Claim7.holds Tryd.pinned (.plain (OpenSpec.upto codeDecodesAsSpecifiedSpec)) codeDecodesAsSpecifiedUptoCard

/-- THE SECOND FORM's CARD OF 'quietuslaw07.CodeDistanceIsLeast'. -/
def codeDistanceIsLeastUptoCard : Claim7 := { stood := { row := codeDistanceIsLeastUptoRow, standIns := [], harness := (true, "5ef61e14026f34c674491436cd9be3c5d1e68f794818f6fef62e45e9e3e35625"), looks := false }, kinds := [], alts := [], laidByText := true, laidKinds := [.data], laidTests := true, laidLooks := .later }
def CodeDistanceIsLeastUptoCardSaid : Prop := Claim7.holds Tryd.pinned (.plain (OpenSpec.upto codeDistanceIsLeastSpec)) codeDistanceIsLeastUptoCard
end Rows
end Go.Proofs.YtgkohfmgdejkpaaDoor
