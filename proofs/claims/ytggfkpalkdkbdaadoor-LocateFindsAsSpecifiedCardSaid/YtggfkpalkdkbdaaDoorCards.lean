/-
  DERIVED. GIVEN WITH THE SEED: THE CARDS: each row of YtggfkpalkdkbdaaDoorRows.lean that lists a variable, with what it lists TIED to the program's text (the seventh form; the later family's looks); each row that meets fmt, with fmt's text TOLD by the authors' own Lean function (tested against real Go, not proved from fmt's source: count such statements apart). THE CARD IS WHAT COUNTS. Prove the row's statement (the work); the ties are given (YtggfkpalkdkbdaaDoorTie.lean); close each card by the builder's one call (the guide's Derived/Test/ToyasCard.lean, 'card_holds'). Laid BY PROGRAM, IN A SANDBOX (cutbox-door.mjs). By AI agents, Wed Nov 11 2026. No macro, syntax, notation, axiom, sorry.
-/
import Derived.Test.YtggfkpalkdkbdaaDoorRows
import GoSem.ClaimSeven
namespace Go.Proofs.YtggfkpalkdkbdaaDoor
namespace Rows

/-- THE TIED CARD OF 'quietuslaw09.LocateAsksAsSpecified'. -/
def locateAsksAsSpecifiedCard : Claim7 := { stood := { row := locateAsksAsSpecifiedRow, standIns := [], harness := (true, "1d329a9a0ba72d059b7c7884d86bf86327297e5b3fd531214c3097c7eace1927"), looks := false }, kinds := [], alts := [], laidByText := true, laidKinds := [.data], laidTests := true, laidLooks := .later }
def LocateAsksAsSpecifiedCardSaid : Prop := Claim7.holds Tryd.pinned (.plain (OpenSpec.ofChange locateAsksAsSpecifiedSpec)) locateAsksAsSpecifiedCard

/-- THE TIED CARD OF 'quietuslaw09.LocateFindsAsSpecified'. -/
def locateFindsAsSpecifiedCard : Claim7 := { stood := { row := locateFindsAsSpecifiedRow, standIns := [], harness := (true, "1d329a9a0ba72d059b7c7884d86bf86327297e5b3fd531214c3097c7eace1927"), looks := false }, kinds := [], alts := [], laidByText := true, laidKinds := [.data], laidTests := true, laidLooks := .later }
def LocateFindsAsSpecifiedCardSaid : Prop := Claim7.holds Tryd.pinned (.plain (OpenSpec.ofChange locateFindsAsSpecifiedSpec)) locateFindsAsSpecifiedCard

/-- THE TIED CARD OF 'quietuslaw09.LocateCorrects'. -/
def locateCorrectsCard : Claim7 := { stood := { row := locateCorrectsRow, standIns := [], harness := (true, "1d329a9a0ba72d059b7c7884d86bf86327297e5b3fd531214c3097c7eace1927"), looks := false }, kinds := [], alts := [], laidByText := true, laidKinds := [.data], laidTests := true, laidLooks := .later }
def LocateCorrectsCardSaid : Prop := Claim7.holds Tryd.pinned (.plain (OpenSpec.ofChange locateCorrectsSpec)) locateCorrectsCard

/-- THE TIED CARD OF 'quietuslaw09.LocateNotices'. -/
def locateNoticesCard : Claim7 := { stood := { row := locateNoticesRow, standIns := [], harness := (true, "1d329a9a0ba72d059b7c7884d86bf86327297e5b3fd531214c3097c7eace1927"), looks := false }, kinds := [], alts := [], laidByText := true, laidKinds := [.data], laidTests := true, laidLooks := .later }
def LocateNoticesCardSaid : Prop := Claim7.holds Tryd.pinned (.plain (OpenSpec.ofChange locateNoticesSpec)) locateNoticesCard

/-- THE TIED CARD OF 'quietuslaw09.LocateClashes'. -/
def locateClashesCard : Claim7 := { stood := { row := locateClashesRow, standIns := [], harness := (true, "1d329a9a0ba72d059b7c7884d86bf86327297e5b3fd531214c3097c7eace1927"), looks := false }, kinds := [], alts := [], laidByText := true, laidKinds := [.data], laidTests := true, laidLooks := .later }
def LocateClashesCardSaid : Prop := Claim7.holds Tryd.pinned (.plain (OpenSpec.ofChange locateClashesSpec)) locateClashesCard

/-- THE TIED CARD OF 'quietuslaw09.LocateNeeds'. -/
def locateNeedsCard : Claim7 := { stood := { row := locateNeedsRow, standIns := [], harness := (true, "1d329a9a0ba72d059b7c7884d86bf86327297e5b3fd531214c3097c7eace1927"), looks := false }, kinds := [], alts := [], laidByText := true, laidKinds := [.data], laidTests := true, laidLooks := .later }
def LocateNeedsCardSaid : Prop := Claim7.holds Tryd.pinned (.plain (OpenSpec.ofChange locateNeedsSpec)) locateNeedsCard

/-- THE SECOND FORM's CARD OF 'quietuslaw09.LocateAsksAsSpecified'. -/
def locateAsksAsSpecifiedUptoCard : Claim7 := { stood := { row := locateAsksAsSpecifiedUptoRow, standIns := [], harness := (true, "1d329a9a0ba72d059b7c7884d86bf86327297e5b3fd531214c3097c7eace1927"), looks := false }, kinds := [], alts := [], laidByText := true, laidKinds := [.data], laidTests := true, laidLooks := .later }
def LocateAsksAsSpecifiedUptoCardSaid : Prop := Claim7.holds Tryd.pinned (.plain (OpenSpec.upto locateAsksAsSpecifiedSpec)) locateAsksAsSpecifiedUptoCard

/-- THE SECOND FORM's CARD OF 'quietuslaw09.LocateFindsAsSpecified'. -/
def locateFindsAsSpecifiedUptoCard : Claim7 := { stood := { row := locateFindsAsSpecifiedUptoRow, standIns := [], harness := (true, "1d329a9a0ba72d059b7c7884d86bf86327297e5b3fd531214c3097c7eace1927"), looks := false }, kinds := [], alts := [], laidByText := true, laidKinds := [.data], laidTests := true, laidLooks := .later }
def LocateFindsAsSpecifiedUptoCardSaid : Prop := Claim7.holds Tryd.pinned (.plain (OpenSpec.upto locateFindsAsSpecifiedSpec)) locateFindsAsSpecifiedUptoCard

/-- THE SECOND FORM's CARD OF 'quietuslaw09.LocateCorrects'. -/
def locateCorrectsUptoCard : Claim7 := { stood := { row := locateCorrectsUptoRow, standIns := [], harness := (true, "1d329a9a0ba72d059b7c7884d86bf86327297e5b3fd531214c3097c7eace1927"), looks := false }, kinds := [], alts := [], laidByText := true, laidKinds := [.data], laidTests := true, laidLooks := .later }
def LocateCorrectsUptoCardSaid : Prop := Claim7.holds Tryd.pinned (.plain (OpenSpec.upto locateCorrectsSpec)) locateCorrectsUptoCard

/-- THE SECOND FORM's CARD OF 'quietuslaw09.LocateNotices'. -/
def locateNoticesUptoCard : Claim7 := { stood := { row := locateNoticesUptoRow, standIns := [], harness := (true, "1d329a9a0ba72d059b7c7884d86bf86327297e5b3fd531214c3097c7eace1927"), looks := false }, kinds := [], alts := [], laidByText := true, laidKinds := [.data], laidTests := true, laidLooks := .later }
def LocateNoticesUptoCardSaid : Prop := Claim7.holds Tryd.pinned (.plain (OpenSpec.upto locateNoticesSpec)) locateNoticesUptoCard

/-- THE SECOND FORM's CARD OF 'quietuslaw09.LocateClashes'. -/
def locateClashesUptoCard : Claim7 := { stood := { row := locateClashesUptoRow, standIns := [], harness := (true, "1d329a9a0ba72d059b7c7884d86bf86327297e5b3fd531214c3097c7eace1927"), looks := false }, kinds := [], alts := [], laidByText := true, laidKinds := [.data], laidTests := true, laidLooks := .later }
def LocateClashesUptoCardSaid : Prop := Claim7.holds Tryd.pinned (.plain (OpenSpec.upto locateClashesSpec)) locateClashesUptoCard

/-- THE SECOND FORM's CARD OF 'quietuslaw09.LocateNeeds'. -/
def locateNeedsUptoCard : Claim7 := { stood := { row := locateNeedsUptoRow, standIns := [], harness := (true, "1d329a9a0ba72d059b7c7884d86bf86327297e5b3fd531214c3097c7eace1927"), looks := false }, kinds := [], alts := [], laidByText := true, laidKinds := [.data], laidTests := true, laidLooks := .later }
def LocateNeedsUptoCardSaid : Prop := Claim7.holds Tryd.pinned (.plain (OpenSpec.upto locateNeedsSpec)) locateNeedsUptoCard
end Rows
end Go.Proofs.YtggfkpalkdkbdaaDoor
