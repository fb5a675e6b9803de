/-
  DERIVED. GIVEN WITH THE SEED: THE CARDS: each row of YtdmljilcbndmfaaDoorRows.lean that lists a variable, with what it lists TIED to the program's text (the seventh form; the later family's looks); each row that meets fmt, with fmt's text TOLD by the authors' own Lean function (tested against real Go, not proved from fmt's source: count such statements apart). THE CARD IS WHAT COUNTS. Prove the row's statement (the work); the ties are given (YtdmljilcbndmfaaDoorTie.lean); close each card by the builder's one call (the guide's Derived/Test/ToyasCard.lean, 'card_holds'). Laid BY PROGRAM, IN A SANDBOX (cutbox-door.mjs). By AI agents, Wed Nov 11 2026. No macro, syntax, notation, axiom, sorry.
-/
import Derived.Test.YtdmljilcbndmfaaDoorRows
import GoSem.ClaimSeven
namespace Go.Proofs.YtdmljilcbndmfaaDoor
namespace Rows

/-- THE TIED CARD OF 'quietuslaw08.RebuildChoosesAsSpecified'. -/
def rebuildChoosesAsSpecifiedCard : Claim7 := { stood := { row := rebuildChoosesAsSpecifiedRow, standIns := [], harness := (true, "56ab195b5cc5f337d50c0ff5642dc468aac17e0fcc6c24014269f74108406397"), looks := false }, kinds := [], alts := [], laidByText := true, laidKinds := [.data], laidTests := true, laidLooks := .later }
def RebuildChoosesAsSpecifiedCardSaid : Prop := Claim7.holds Tryd.pinned (.plain (OpenSpec.ofChange rebuildChoosesAsSpecifiedSpec)) rebuildChoosesAsSpecifiedCard

/-- THE TIED CARD OF 'quietuslaw08.RebuildJoinsAsSpecified'. -/
def rebuildJoinsAsSpecifiedCard : Claim7 := { stood := { row := rebuildJoinsAsSpecifiedRow, standIns := [], harness := (true, "56ab195b5cc5f337d50c0ff5642dc468aac17e0fcc6c24014269f74108406397"), looks := false }, kinds := [], alts := [], laidByText := true, laidKinds := [.data], laidTests := true, laidLooks := .later }
def RebuildJoinsAsSpecifiedCardSaid : Prop := Claim7.holds Tryd.pinned (.plain (OpenSpec.ofChange rebuildJoinsAsSpecifiedSpec)) rebuildJoinsAsSpecifiedCard

/-- THE TIED CARD OF 'quietuslaw08.RebuildAppliesAsSpecified'. -/
def rebuildAppliesAsSpecifiedCard : Claim7 := { stood := { row := rebuildAppliesAsSpecifiedRow, standIns := [], harness := (true, "56ab195b5cc5f337d50c0ff5642dc468aac17e0fcc6c24014269f74108406397"), looks := false }, kinds := [], alts := [], laidByText := true, laidKinds := [.data], laidTests := true, laidLooks := .later }
def RebuildAppliesAsSpecifiedCardSaid : Prop := Claim7.holds Tryd.pinned (.plain (OpenSpec.ofChange rebuildAppliesAsSpecifiedSpec)) rebuildAppliesAsSpecifiedCard

/-- THE TIED CARD OF 'quietuslaw08.RebuildIsLeast'. -/
def rebuildIsLeastCard : Claim7 := { stood := { row := rebuildIsLeastRow, standIns := [], harness := (true, "56ab195b5cc5f337d50c0ff5642dc468aac17e0fcc6c24014269f74108406397"), looks := false }, kinds := [], alts := [], laidByText := true, laidKinds := [.data], laidTests := true, laidLooks := .later }
def RebuildIsLeastCardSaid : Prop := Claim7.holds Tryd.pinned (.plain (OpenSpec.ofChange rebuildIsLeastSpec)) rebuildIsLeastCard

/-- THE TIED CARD OF 'quietuslaw08.RebuildIsMonotone'. -/
def rebuildIsMonotoneCard : Claim7 := { stood := { row := rebuildIsMonotoneRow, standIns := [], harness := (true, "56ab195b5cc5f337d50c0ff5642dc468aac17e0fcc6c24014269f74108406397"), looks := false }, kinds := [], alts := [], laidByText := true, laidKinds := [.data], laidTests := true, laidLooks := .later }
def RebuildIsMonotoneCardSaid : Prop := Claim7.holds Tryd.pinned (.plain (OpenSpec.ofChange rebuildIsMonotoneSpec)) rebuildIsMonotoneCard

/-- THE TIED CARD OF 'quietuslaw08.RebuildReadsTogether'. -/
def rebuildReadsTogetherCard : Claim7 := { stood := { row := rebuildReadsTogetherRow, standIns := [], harness := (true, "56ab195b5cc5f337d50c0ff5642dc468aac17e0fcc6c24014269f74108406397"), looks := false }, kinds := [], alts := [], laidByText := true, laidKinds := [.data], laidTests := true, laidLooks := .later }
def RebuildReadsTogetherCardSaid : Prop := Claim7.holds Tryd.pinned (.plain (OpenSpec.ofChange rebuildReadsTogetherSpec)) rebuildReadsTogetherCard

/-- THE TIED CARD OF 'quietuslaw08.RebuildRestores'. -/
def rebuildRestoresCard : Claim7 := { stood := { row := rebuildRestoresRow, standIns := [], harness := (true, "56ab195b5cc5f337d50c0ff5642dc468aac17e0fcc6c24014269f74108406397"), looks := false }, kinds := [], alts := [], laidByText := true, laidKinds := [.data], laidTests := true, laidLooks := .later }
def RebuildRestoresCardSaid : Prop := Claim7.holds Tryd.pinned (.plain (OpenSpec.ofChange rebuildRestoresSpec)) rebuildRestoresCard

/-- THE SECOND FORM's CARD OF 'quietuslaw08.RebuildChoosesAsSpecified'. -/
def rebuildChoosesAsSpecifiedUptoCard : Claim7 := { stood := { row := rebuildChoosesAsSpecifiedUptoRow, standIns := [], harness := (true, "56ab195b5cc5f337d50c0ff5642dc468aac17e0fcc6c24014269f74108406397"), looks := false }, kinds := [], alts := [], laidByText := true, laidKinds := [.data], laidTests := true, laidLooks := .later }
def RebuildChoosesAsSpecifiedUptoCardSaid : Prop := Claim7.holds Tryd.pinned (.plain (OpenSpec.upto rebuildChoosesAsSpecifiedSpec)) rebuildChoosesAsSpecifiedUptoCard

/-- THE SECOND FORM's CARD OF 'quietuslaw08.RebuildJoinsAsSpecified'. -/
def rebuildJoinsAsSpecifiedUptoCard : Claim7 := { stood := { row := rebuildJoinsAsSpecifiedUptoRow, standIns := [], harness := (true, "56ab195b5cc5f337d50c0ff5642dc468aac17e0fcc6c24014269f74108406397"), looks := false }, kinds := [], alts := [], laidByText := true, laidKinds := [.data], laidTests := true, laidLooks := .later }
def RebuildJoinsAsSpecifiedUptoCardSaid : Prop := Claim7.holds Tryd.pinned (.plain (OpenSpec.upto rebuildJoinsAsSpecifiedSpec)) rebuildJoinsAsSpecifiedUptoCard

/-- THE SECOND FORM's CARD OF 'quietuslaw08.RebuildAppliesAsSpecified'. -/
def rebuildAppliesAsSpecifiedUptoCard : Claim7 := { stood := { row := rebuildAppliesAsSpecifiedUptoRow, standIns := [], harness := (true, "56ab195b5cc5f337d50c0ff5642dc468aac17e0fcc6c24014269f74108406397"), looks := false }, kinds := [], alts := [], laidByText := true, laidKinds := [.data], laidTests := true, laidLooks := .later }
def RebuildAppliesAsSpecifiedUptoCardSaid : Prop := Claim7.holds Tryd.pinned (.plain (OpenSpec.upto rebuildAppliesAsSpecifiedSpec)) rebuildAppliesAsSpecifiedUptoCard

/-- THE SECOND FORM's CARD OF 'quietuslaw08.RebuildIsLeast'. -/
def rebuildIsLeastUptoCard : Claim7 := { stood := { row := rebuildIsLeastUptoRow, standIns := [], harness := (true, "56ab195b5cc5f337d50c0ff5642dc468aac17e0fcc6c24014269f74108406397"), looks := false }, kinds := [], alts := [], laidByText := true, laidKinds := [.data], laidTests := true, laidLooks := .later }
def RebuildIsLeastUptoCardSaid : Prop := Claim7.holds Tryd.pinned (.plain (OpenSpec.upto rebuildIsLeastSpec)) rebuildIsLeastUptoCard

/-- THE SECOND FORM's CARD OF 'quietuslaw08.RebuildIsMonotone'. -/
def rebuildIsMonotoneUptoCard : Claim7 := { stood := { row := rebuildIsMonotoneUptoRow, standIns := [], harness := (true, "56ab195b5cc5f337d50c0ff5642dc468aac17e0fcc6c24014269f74108406397"), looks := false }, kinds := [], alts := [], laidByText := true, laidKinds := [.data], laidTests := true, laidLooks := .later }
def RebuildIsMonotoneUptoCardSaid : Prop := Claim7.holds Tryd.pinned (.plain (OpenSpec.upto rebuildIsMonotoneSpec)) rebuildIsMonotoneUptoCard

/-- THE SECOND FORM's CARD OF 'quietuslaw08.RebuildReadsTogether'. -/
def rebuildReadsTogetherUptoCard : Claim7 := { stood := { row := rebuildReadsTogetherUptoRow, standIns := [], harness := (true, "56ab195b5cc5f337d50c0ff5642dc468aac17e0fcc6c24014269f74108406397"), looks := false }, kinds := [], alts := [], laidByText := true, laidKinds := [.data], laidTests := true, laidLooks := .later }
def RebuildReadsTogetherUptoCardSaid : Prop := Claim7.holds Tryd.pinned (.plain (OpenSpec.upto rebuildReadsTogetherSpec)) rebuildReadsTogetherUptoCard

/-- THE SECOND FORM's CARD OF 'quietuslaw08.RebuildRestores'. -/
def rebuildRestoresUptoCard : Claim7 := { stood := { row := rebuildRestoresUptoRow, standIns := [], harness := (true, "56ab195b5cc5f337d50c0ff5642dc468aac17e0fcc6c24014269f74108406397"), looks := false }, kinds := [], alts := [], laidByText := true, laidKinds := [.data], laidTests := true, laidLooks := .later }
def RebuildRestoresUptoCardSaid : Prop := Claim7.holds Tryd.pinned (.plain (OpenSpec.upto rebuildRestoresSpec)) rebuildRestoresUptoCard
end Rows
end Go.Proofs.YtdmljilcbndmfaaDoor
