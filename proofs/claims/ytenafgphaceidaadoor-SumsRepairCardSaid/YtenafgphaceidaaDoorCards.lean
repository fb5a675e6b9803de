/-
  DERIVED. GIVEN WITH THE SEED: THE CARDS: each row of YtenafgphaceidaaDoorRows.lean that lists a variable, with what it lists TIED to the program's text (the seventh form; the later family's looks); each row that meets fmt, with fmt's text TOLD by the authors' own Lean function (tested against real Go, not proved from fmt's source: count such statements apart). THE CARD IS WHAT COUNTS. Prove the row's statement (the work); the ties are given (YtenafgphaceidaaDoorTie.lean); close each card by the builder's one call (the guide's Derived/Test/ToyasCard.lean, 'card_holds'). Laid BY PROGRAM, IN A SANDBOX (cutbox-door.mjs). By AI agents, Wed Nov 11 2026. No macro, syntax, notation, axiom, sorry.
-/
import Derived.Test.YtenafgphaceidaaDoorRows
import GoSem.ClaimSeven
namespace Go.Proofs.YtenafgphaceidaaDoor
namespace Rows

/-- THE TIED CARD OF 'quietuslaw19.SumsAreAsSpecified'. -/
def sumsAreAsSpecifiedCard : Claim7 := { stood := { row := sumsAreAsSpecifiedRow, standIns := [], harness := (true, "7edc0dcaa6d1b552281d82578733a6cfd34a33a9e90c151e8696b4393a146b61"), looks := false }, kinds := [], alts := [], laidByText := true, laidKinds := [.data], laidTests := true, laidLooks := .later }
def SumsAreAsSpecifiedCardSaid : Prop := Claim7.holds Tryd.pinned (.plain (OpenSpec.ofChange sumsAreAsSpecifiedSpec)) sumsAreAsSpecifiedCard

/-- THE TIED CARD OF 'quietuslaw19.SumsTreesAreLeast'. -/
def sumsTreesAreLeastCard : Claim7 := { stood := { row := sumsTreesAreLeastRow, standIns := [], harness := (true, "7edc0dcaa6d1b552281d82578733a6cfd34a33a9e90c151e8696b4393a146b61"), looks := false }, kinds := [], alts := [], laidByText := true, laidKinds := [.data], laidTests := true, laidLooks := .later }
def SumsTreesAreLeastCardSaid : Prop := Claim7.holds Tryd.pinned (.plain (OpenSpec.ofChange sumsTreesAreLeastSpec)) sumsTreesAreLeastCard

/-- THE TIED CARD OF 'quietuslaw19.SumsCarryAsSpecified'. -/
def sumsCarryAsSpecifiedCard : Claim7 := { stood := { row := sumsCarryAsSpecifiedRow, standIns := [], harness := (true, "7edc0dcaa6d1b552281d82578733a6cfd34a33a9e90c151e8696b4393a146b61"), looks := false }, kinds := [], alts := [], laidByText := true, laidKinds := [.data], laidTests := true, laidLooks := .later }
def SumsCarryAsSpecifiedCardSaid : Prop := Claim7.holds Tryd.pinned (.plain (OpenSpec.ofChange sumsCarryAsSpecifiedSpec)) sumsCarryAsSpecifiedCard

/-- THE TIED CARD OF 'quietuslaw19.SumsArrive'. -/
def sumsArriveCard : Claim7 := { stood := { row := sumsArriveRow, standIns := [], harness := (true, "7edc0dcaa6d1b552281d82578733a6cfd34a33a9e90c151e8696b4393a146b61"), looks := false }, kinds := [], alts := [], laidByText := true, laidKinds := [.data], laidTests := true, laidLooks := .later }
def SumsArriveCardSaid : Prop := Claim7.holds Tryd.pinned (.plain (OpenSpec.ofChange sumsArriveSpec)) sumsArriveCard

/-- THE TIED CARD OF 'quietuslaw19.SumsRepair'. -/
def sumsRepairCard : Claim7 := { stood := { row := sumsRepairRow, standIns := [], harness := (true, "7edc0dcaa6d1b552281d82578733a6cfd34a33a9e90c151e8696b4393a146b61"), looks := false }, kinds := [], alts := [], laidByText := true, laidKinds := [.data], laidTests := true, laidLooks := .later }
def SumsRepairCardSaid : Prop := Claim7.holds Tryd.pinned (.plain (OpenSpec.ofChange sumsRepairSpec)) sumsRepairCard

/-- THE SECOND FORM's CARD OF 'quietuslaw19.SumsAreAsSpecified'. -/
def sumsAreAsSpecifiedUptoCard : Claim7 := { stood := { row := sumsAreAsSpecifiedUptoRow, standIns := [], harness := (true, "7edc0dcaa6d1b552281d82578733a6cfd34a33a9e90c151e8696b4393a146b61"), looks := false }, kinds := [], alts := [], laidByText := true, laidKinds := [.data], laidTests := true, laidLooks := .later }
def SumsAreAsSpecifiedUptoCardSaid : Prop := Claim7.holds Tryd.pinned (.plain (OpenSpec.upto sumsAreAsSpecifiedSpec)) sumsAreAsSpecifiedUptoCard

/-- THE SECOND FORM's CARD OF 'quietuslaw19.SumsTreesAreLeast'. -/
def sumsTreesAreLeastUptoCard : Claim7 := { stood := { row := sumsTreesAreLeastUptoRow, standIns := [], harness := (true, "7edc0dcaa6d1b552281d82578733a6cfd34a33a9e90c151e8696b4393a146b61"), looks := false }, kinds := [], alts := [], laidByText := true, laidKinds := [.data], laidTests := true, laidLooks := .later }
def SumsTreesAreLeastUptoCardSaid : Prop := Claim7.holds Tryd.pinned (.plain (OpenSpec.upto sumsTreesAreLeastSpec)) sumsTreesAreLeastUptoCard

/-- THE SECOND FORM's CARD OF 'quietuslaw19.SumsCarryAsSpecified'. -/
def sumsCarryAsSpecifiedUptoCard : Claim7 := { stood := { row := sumsCarryAsSpecifiedUptoRow, standIns := [], harness := (true, "7edc0dcaa6d1b552281d82578733a6cfd34a33a9e90c151e8696b4393a146b61"), looks := false }, kinds := [], alts := [], laidByText := true, laidKinds := [.data], laidTests := true, laidLooks := .later }
def SumsCarryAsSpecifiedUptoCardSaid : Prop := Claim7.holds Tryd.pinned (.plain (OpenSpec.upto sumsCarryAsSpecifiedSpec)) sumsCarryAsSpecifiedUptoCard

/-- THE SECOND FORM's CARD OF 'quietuslaw19.SumsArrive'. -/
def sumsArriveUptoCard : Claim7 := { stood := { row := sumsArriveUptoRow, standIns := [], harness := (true, "7edc0dcaa6d1b552281d82578733a6cfd34a33a9e90c151e8696b4393a146b61"), looks := false }, kinds := [], alts := [], laidByText := true, laidKinds := [.data], laidTests := true, laidLooks := .later }
def SumsArriveUptoCardSaid : Prop := Claim7.holds Tryd.pinned (.plain (OpenSpec.upto sumsArriveSpec)) sumsArriveUptoCard

/-- THE SECOND FORM's CARD OF 'quietuslaw19.SumsRepair'. -/
def sumsRepairUptoCard : Claim7 := { stood := { row := sumsRepairUptoRow, standIns := [], harness := (true, "7edc0dcaa6d1b552281d82578733a6cfd34a33a9e90c151e8696b4393a146b61"), looks := false }, kinds := [], alts := [], laidByText := true, laidKinds := [.data], laidTests := true, laidLooks := .later }
def SumsRepairUptoCardSaid : Prop := Claim7.holds Tryd.pinned (.plain (OpenSpec.upto sumsRepairSpec)) sumsRepairUptoCard
end Rows
end Go.Proofs.YtenafgphaceidaaDoor
