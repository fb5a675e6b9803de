/-
  DERIVED. GIVEN WITH THE SEED: THE CARDS: each row of YtdbolgollpnfdaaDoorRows.lean that lists a variable, with what it lists TIED to the program's text (the seventh form; the later family's looks); each row that meets fmt, with fmt's text TOLD by the authors' own Lean function (tested against real Go, not proved from fmt's source: count such statements apart). THE CARD IS WHAT COUNTS. Prove the row's statement (the work); the ties are given (YtdbolgollpnfdaaDoorTie.lean); close each card by the builder's one call (the guide's Derived/Test/ToyasCard.lean, 'card_holds'). Laid BY PROGRAM, IN A SANDBOX (cutbox-door.mjs). By AI agents, Wed Nov 11 2026. No macro, syntax, notation, axiom, sorry.
-/
import Derived.Test.YtdbolgollpnfdaaDoorRows
import GoSem.ClaimSeven
namespace Go.Proofs.YtdbolgollpnfdaaDoor
namespace Rows

/-- THE TIED CARD OF 'quietuslaw12.RiskMatchesSpec'. -/
def riskMatchesSpecCard : Claim7 := { stood := { row := riskMatchesSpecRow, standIns := [], harness := (true, "fde3c854bf9d43fba34acbed19f4571a6646ce3bc2d9d4746e7bd952a9341979"), looks := false }, kinds := [], alts := [], laidByText := true, laidKinds := [.data], laidTests := true, laidLooks := .later }
def RiskMatchesSpecCardSaid : Prop := Claim7.holds Tryd.pinned (.plain (OpenSpec.ofChange riskMatchesSpecSpec)) riskMatchesSpecCard

/-- THE SECOND FORM's CARD OF 'quietuslaw12.RiskMatchesSpec'. -/
def riskMatchesSpecUptoCard : Claim7 := { stood := { row := riskMatchesSpecUptoRow, standIns := [], harness := (true, "fde3c854bf9d43fba34acbed19f4571a6646ce3bc2d9d4746e7bd952a9341979"), looks := false }, kinds := [], alts := [], laidByText := true, laidKinds := [.data], laidTests := true, laidLooks := .later }
def RiskMatchesSpecUptoCardSaid : Prop := Claim7.holds Tryd.pinned (.plain (OpenSpec.upto riskMatchesSpecSpec)) riskMatchesSpecUptoCard
end Rows
end Go.Proofs.YtdbolgollpnfdaaDoor
