/-
  NARROWER THAN 'FOR EVERY INPUT', by the rows' own cells (each row's printed sentence says how): RebuildChoosesAsSpecified: laid · RebuildJoinsAsSpecified: laid · RebuildAppliesAsSpecified: laid · RebuildIsLeast: laid · RebuildIsMonotone: laid · RebuildReadsTogether: laid · RebuildRestores: laid.
  DERIVED. THE GIVEN ROWS OF THIS SEAT. 7 by the template 'for every input the law returns true; each argument reads behind the call as it read before'; 0 by the template 'total and deterministic' (their statements: YtdmljilcbndmfaaDoorTotals.lean).
  GIVEN WITH THE SEED: the statements are not yours to turn. If you find one false, say at which input.
  Laid BY PROGRAM, IN A SANDBOX (cutbox-rows.mjs): the forced cells as the released guide's own fill.sh prints them over the translation 8ab16cc5c7289e1b… (all of the seat's roots in one cut). By AI agents, Wed Nov 11 2026. No macro, syntax, notation, axiom, sorry.
-/
import Derived.Test.YtdmljilcbndmfaaDoorChecked
import GoSem.Claim
import GoSem.ClaimJoined
import GoSem.ClaimMapViews
import Derived.JoinedTies
import Derived.KernelRfl
namespace Go.Proofs.YtdmljilcbndmfaaDoor
/- THE CELL 'sum', in the pinned program and in every row, IS THE sha256 OF THE DUMP (.gsa) THAT YtdmljilcbndmfaaDoorProg.lean LOADS. Nothing in Lean hashes anything: it is a label: what it is worth is what the hold of that sum in a sandbox is worth. -/
noncomputable def Tryd.pinned : Pinned := { name := "ytdmljilcbndmfaadoor", sum := "8ab16cc5c7289e1b437aec6f47ed764f54ca931de496d64d092fc93b63b526fa", checked := Tryd.checked }
namespace Rows
def none {H : Type} : Left H := { results := [], args := [] }

/- WHAT THE LISTED PACKAGE-LEVEL VARIABLES READ AS WHEN THE CALL BEGINS. Each datum BY PROGRAM (the guide's laid-datum.mjs) off the statement by which the dump's own 'gosem.cut.vars' lays the variable. In a bare row this is a premise. The card (YtdmljilcbndmfaaDoorCards.lean) ties it to the program's text. -/
def laid_quietus_gf_high {H : Type} : DataW H := .agg [.lit (.int .u8 0), .lit (.int .u8 29), .lit (.int .u8 58), .lit (.int .u8 39), .lit (.int .u8 116), .lit (.int .u8 105), .lit (.int .u8 78), .lit (.int .u8 83), .lit (.int .u8 232), .lit (.int .u8 245), .lit (.int .u8 210), .lit (.int .u8 207), .lit (.int .u8 156), .lit (.int .u8 129), .lit (.int .u8 166), .lit (.int .u8 187)]

/-- 'quietuslaw08.RebuildChoosesAsSpecified': WHATEVER THE INPUT: true; the input reads as it did. -/
def rebuildChoosesAsSpecifiedSpec : ChangeSpec := { name := "rebuildChoosesAsSpecified", fn := fun _ => fun
  | [d1, d2, d3] => { results := [.lit (.bool true)], args := [d1, d2, d3] }
  | _ => none }
def rebuildChoosesAsSpecifiedRow : OpenClaim := { program := "ytdmljilcbndmfaadoor", sum := "8ab16cc5c7289e1b437aec6f47ed764f54ca931de496d64d092fc93b63b526fa", func := "quietus/quietuslaw08.RebuildChoosesAsSpecified", spec := "rebuildChoosesAsSpecified", unfollowed := true, recurses := true, named := ["quietus/gf.high"], apart := false, laid := [("quietus/gf.high", laid_quietus_gf_high)] }
def RebuildChoosesAsSpecifiedSaid : Prop := rebuildChoosesAsSpecifiedRow.holds Tryd.pinned (OpenSpec.ofChange rebuildChoosesAsSpecifiedSpec)

/-- ITS FALSE NEIGHBOUR: 'it returns false'. Refute it at one input. -/
def rebuildChoosesAsSpecifiedWrong : ChangeSpec := { name := "rebuildChoosesAsSpecified", fn := fun _ => fun
  | [d1, d2, d3] => { results := [.lit (.bool false)], args := [d1, d2, d3] }
  | _ => none }
def RebuildChoosesAsSpecifiedWrongFalsely : Prop := rebuildChoosesAsSpecifiedRow.holds Tryd.pinned (OpenSpec.ofChange rebuildChoosesAsSpecifiedWrong)

/-- 'quietuslaw08.RebuildJoinsAsSpecified': WHATEVER THE INPUT: true; the input reads as it did. -/
def rebuildJoinsAsSpecifiedSpec : ChangeSpec := { name := "rebuildJoinsAsSpecified", fn := fun _ => fun
  | [d1, d2] => { results := [.lit (.bool true)], args := [d1, d2] }
  | _ => none }
def rebuildJoinsAsSpecifiedRow : OpenClaim := { program := "ytdmljilcbndmfaadoor", sum := "8ab16cc5c7289e1b437aec6f47ed764f54ca931de496d64d092fc93b63b526fa", func := "quietus/quietuslaw08.RebuildJoinsAsSpecified", spec := "rebuildJoinsAsSpecified", unfollowed := true, recurses := true, named := ["quietus/gf.high"], apart := false, laid := [("quietus/gf.high", laid_quietus_gf_high)] }
def RebuildJoinsAsSpecifiedSaid : Prop := rebuildJoinsAsSpecifiedRow.holds Tryd.pinned (OpenSpec.ofChange rebuildJoinsAsSpecifiedSpec)

/-- ITS FALSE NEIGHBOUR: 'it returns false'. Refute it at one input. -/
def rebuildJoinsAsSpecifiedWrong : ChangeSpec := { name := "rebuildJoinsAsSpecified", fn := fun _ => fun
  | [d1, d2] => { results := [.lit (.bool false)], args := [d1, d2] }
  | _ => none }
def RebuildJoinsAsSpecifiedWrongFalsely : Prop := rebuildJoinsAsSpecifiedRow.holds Tryd.pinned (OpenSpec.ofChange rebuildJoinsAsSpecifiedWrong)

/-- 'quietuslaw08.RebuildAppliesAsSpecified': WHATEVER THE INPUT: true; the input reads as it did. -/
def rebuildAppliesAsSpecifiedSpec : ChangeSpec := { name := "rebuildAppliesAsSpecified", fn := fun _ => fun
  | [d1, d2] => { results := [.lit (.bool true)], args := [d1, d2] }
  | _ => none }
def rebuildAppliesAsSpecifiedRow : OpenClaim := { program := "ytdmljilcbndmfaadoor", sum := "8ab16cc5c7289e1b437aec6f47ed764f54ca931de496d64d092fc93b63b526fa", func := "quietus/quietuslaw08.RebuildAppliesAsSpecified", spec := "rebuildAppliesAsSpecified", unfollowed := true, recurses := true, named := ["quietus/gf.high"], apart := false, laid := [("quietus/gf.high", laid_quietus_gf_high)] }
def RebuildAppliesAsSpecifiedSaid : Prop := rebuildAppliesAsSpecifiedRow.holds Tryd.pinned (OpenSpec.ofChange rebuildAppliesAsSpecifiedSpec)

/-- ITS FALSE NEIGHBOUR: 'it returns false'. Refute it at one input. -/
def rebuildAppliesAsSpecifiedWrong : ChangeSpec := { name := "rebuildAppliesAsSpecified", fn := fun _ => fun
  | [d1, d2] => { results := [.lit (.bool false)], args := [d1, d2] }
  | _ => none }
def RebuildAppliesAsSpecifiedWrongFalsely : Prop := rebuildAppliesAsSpecifiedRow.holds Tryd.pinned (OpenSpec.ofChange rebuildAppliesAsSpecifiedWrong)

/-- 'quietuslaw08.RebuildIsLeast': WHATEVER THE INPUT: true; the input reads as it did. -/
def rebuildIsLeastSpec : ChangeSpec := { name := "rebuildIsLeast", fn := fun _ => fun
  | [d] => { results := [.lit (.bool true)], args := [d] }
  | _ => none }
def rebuildIsLeastRow : OpenClaim := { program := "ytdmljilcbndmfaadoor", sum := "8ab16cc5c7289e1b437aec6f47ed764f54ca931de496d64d092fc93b63b526fa", func := "quietus/quietuslaw08.RebuildIsLeast", spec := "rebuildIsLeast", unfollowed := true, recurses := true, named := ["quietus/gf.high"], apart := false, laid := [("quietus/gf.high", laid_quietus_gf_high)] }
def RebuildIsLeastSaid : Prop := rebuildIsLeastRow.holds Tryd.pinned (OpenSpec.ofChange rebuildIsLeastSpec)

/-- ITS FALSE NEIGHBOUR: 'it returns false'. Refute it at one input. -/
def rebuildIsLeastWrong : ChangeSpec := { name := "rebuildIsLeast", fn := fun _ => fun
  | [d] => { results := [.lit (.bool false)], args := [d] }
  | _ => none }
def RebuildIsLeastWrongFalsely : Prop := rebuildIsLeastRow.holds Tryd.pinned (OpenSpec.ofChange rebuildIsLeastWrong)

/-- 'quietuslaw08.RebuildIsMonotone': WHATEVER THE INPUT: true; the input reads as it did. -/
def rebuildIsMonotoneSpec : ChangeSpec := { name := "rebuildIsMonotone", fn := fun _ => fun
  | [d] => { results := [.lit (.bool true)], args := [d] }
  | _ => none }
def rebuildIsMonotoneRow : OpenClaim := { program := "ytdmljilcbndmfaadoor", sum := "8ab16cc5c7289e1b437aec6f47ed764f54ca931de496d64d092fc93b63b526fa", func := "quietus/quietuslaw08.RebuildIsMonotone", spec := "rebuildIsMonotone", unfollowed := true, recurses := true, named := ["quietus/gf.high"], apart := false, laid := [("quietus/gf.high", laid_quietus_gf_high)] }
def RebuildIsMonotoneSaid : Prop := rebuildIsMonotoneRow.holds Tryd.pinned (OpenSpec.ofChange rebuildIsMonotoneSpec)

/-- ITS FALSE NEIGHBOUR: 'it returns false'. Refute it at one input. -/
def rebuildIsMonotoneWrong : ChangeSpec := { name := "rebuildIsMonotone", fn := fun _ => fun
  | [d] => { results := [.lit (.bool false)], args := [d] }
  | _ => none }
def RebuildIsMonotoneWrongFalsely : Prop := rebuildIsMonotoneRow.holds Tryd.pinned (OpenSpec.ofChange rebuildIsMonotoneWrong)

/-- 'quietuslaw08.RebuildReadsTogether': WHATEVER THE INPUT: true; the input reads as it did. -/
def rebuildReadsTogetherSpec : ChangeSpec := { name := "rebuildReadsTogether", fn := fun _ => fun
  | [d] => { results := [.lit (.bool true)], args := [d] }
  | _ => none }
def rebuildReadsTogetherRow : OpenClaim := { program := "ytdmljilcbndmfaadoor", sum := "8ab16cc5c7289e1b437aec6f47ed764f54ca931de496d64d092fc93b63b526fa", func := "quietus/quietuslaw08.RebuildReadsTogether", spec := "rebuildReadsTogether", unfollowed := true, recurses := true, named := ["quietus/gf.high"], apart := false, laid := [("quietus/gf.high", laid_quietus_gf_high)] }
def RebuildReadsTogetherSaid : Prop := rebuildReadsTogetherRow.holds Tryd.pinned (OpenSpec.ofChange rebuildReadsTogetherSpec)

/-- ITS FALSE NEIGHBOUR: 'it returns false'. Refute it at one input. -/
def rebuildReadsTogetherWrong : ChangeSpec := { name := "rebuildReadsTogether", fn := fun _ => fun
  | [d] => { results := [.lit (.bool false)], args := [d] }
  | _ => none }
def RebuildReadsTogetherWrongFalsely : Prop := rebuildReadsTogetherRow.holds Tryd.pinned (OpenSpec.ofChange rebuildReadsTogetherWrong)

/-- 'quietuslaw08.RebuildRestores': WHATEVER THE INPUT: true; the input reads as it did. -/
def rebuildRestoresSpec : ChangeSpec := { name := "rebuildRestores", fn := fun _ => fun
  | [d] => { results := [.lit (.bool true)], args := [d] }
  | _ => none }
def rebuildRestoresRow : OpenClaim := { program := "ytdmljilcbndmfaadoor", sum := "8ab16cc5c7289e1b437aec6f47ed764f54ca931de496d64d092fc93b63b526fa", func := "quietus/quietuslaw08.RebuildRestores", spec := "rebuildRestores", unfollowed := true, recurses := true, named := ["quietus/gf.high"], apart := false, laid := [("quietus/gf.high", laid_quietus_gf_high)] }
def RebuildRestoresSaid : Prop := rebuildRestoresRow.holds Tryd.pinned (OpenSpec.ofChange rebuildRestoresSpec)

/-- ITS FALSE NEIGHBOUR: 'it returns false'. Refute it at one input. -/
def rebuildRestoresWrong : ChangeSpec := { name := "rebuildRestores", fn := fun _ => fun
  | [d] => { results := [.lit (.bool false)], args := [d] }
  | _ => none }
def RebuildRestoresWrongFalsely : Prop := rebuildRestoresRow.holds Tryd.pinned (OpenSpec.ofChange rebuildRestoresWrong)

/- THE SECOND FORM. 'bulk': how many values and letters a reading holds, each counted each time it is reached (what is shared counts as often as it is met; a slice's spare places count too). A statement '..UptoSaid' is the law's where the arguments, and the package variables that the reading takes, are together of bulk at most 1048576: NARROWER than '..Said'. Prove '..Said' where nothing that the law and all that it calls make is longer than what came in: it says more and counts as full. Else prove '..UptoSaid'. A law counts once. -/
mutual
def uptoBulk {H : Type} : DataW H → Nat
  | .lit (.string bytes) => bytes.length + 1
  | .lit _ => 1
  | .nil => 1
  | .ptr d => uptoBulk d + 1
  | .slice elems spare => uptoBulkAll elems + uptoBulkAll spare + 1
  | .agg parts => uptoBulkAll parts + 1
  | .iface _ d => uptoBulk d + 1
  | .map entries => uptoBulkEntries entries + 1
  | .held _ => 1
def uptoBulkAll {H : Type} : List (DataW H) → Nat
  | [] => 0
  | d :: r => uptoBulk d + uptoBulkAll r
def uptoBulkEntries {H : Type} : List (Lit × DataW H) → Nat
  | [] => 0
  | x :: r => uptoBulkEntry x + uptoBulkEntries r
def uptoBulkEntry {H : Type} : Lit × DataW H → Nat
  | (.string bytes, d) => bytes.length + uptoBulk d + 1
  | (_, d) => uptoBulk d + 1
 end
def uptoSmall : (H : Type) → List (DataW H) → Bool := fun _ ds => decide (uptoBulkAll ds ≤ 1048576)
def OpenSpec.upto (s : _root_.Go.ChangeSpec) : _root_.Go.OpenSpec := { _root_.Go.OpenSpec.ofChange s with cond := some uptoSmall }

/-- 'quietuslaw08.RebuildChoosesAsSpecified', WHERE WHAT IT READS IS OF BULK AT MOST 1048576: true; the input reads as it did. -/
def rebuildChoosesAsSpecifiedUptoRow : OpenClaim := { program := "ytdmljilcbndmfaadoor", sum := "8ab16cc5c7289e1b437aec6f47ed764f54ca931de496d64d092fc93b63b526fa", func := "quietus/quietuslaw08.RebuildChoosesAsSpecified", spec := "rebuildChoosesAsSpecified", unfollowed := true, recurses := true, named := ["quietus/gf.high"], apart := false, laid := [("quietus/gf.high", laid_quietus_gf_high)], narrowed := true }
def RebuildChoosesAsSpecifiedUptoSaid : Prop := rebuildChoosesAsSpecifiedUptoRow.holds Tryd.pinned (OpenSpec.upto rebuildChoosesAsSpecifiedSpec)

/-- 'quietuslaw08.RebuildJoinsAsSpecified', WHERE WHAT IT READS IS OF BULK AT MOST 1048576: true; the input reads as it did. -/
def rebuildJoinsAsSpecifiedUptoRow : OpenClaim := { program := "ytdmljilcbndmfaadoor", sum := "8ab16cc5c7289e1b437aec6f47ed764f54ca931de496d64d092fc93b63b526fa", func := "quietus/quietuslaw08.RebuildJoinsAsSpecified", spec := "rebuildJoinsAsSpecified", unfollowed := true, recurses := true, named := ["quietus/gf.high"], apart := false, laid := [("quietus/gf.high", laid_quietus_gf_high)], narrowed := true }
def RebuildJoinsAsSpecifiedUptoSaid : Prop := rebuildJoinsAsSpecifiedUptoRow.holds Tryd.pinned (OpenSpec.upto rebuildJoinsAsSpecifiedSpec)

/-- 'quietuslaw08.RebuildAppliesAsSpecified', WHERE WHAT IT READS IS OF BULK AT MOST 1048576: true; the input reads as it did. -/
def rebuildAppliesAsSpecifiedUptoRow : OpenClaim := { program := "ytdmljilcbndmfaadoor", sum := "8ab16cc5c7289e1b437aec6f47ed764f54ca931de496d64d092fc93b63b526fa", func := "quietus/quietuslaw08.RebuildAppliesAsSpecified", spec := "rebuildAppliesAsSpecified", unfollowed := true, recurses := true, named := ["quietus/gf.high"], apart := false, laid := [("quietus/gf.high", laid_quietus_gf_high)], narrowed := true }
def RebuildAppliesAsSpecifiedUptoSaid : Prop := rebuildAppliesAsSpecifiedUptoRow.holds Tryd.pinned (OpenSpec.upto rebuildAppliesAsSpecifiedSpec)

/-- 'quietuslaw08.RebuildIsLeast', WHERE WHAT IT READS IS OF BULK AT MOST 1048576: true; the input reads as it did. -/
def rebuildIsLeastUptoRow : OpenClaim := { program := "ytdmljilcbndmfaadoor", sum := "8ab16cc5c7289e1b437aec6f47ed764f54ca931de496d64d092fc93b63b526fa", func := "quietus/quietuslaw08.RebuildIsLeast", spec := "rebuildIsLeast", unfollowed := true, recurses := true, named := ["quietus/gf.high"], apart := false, laid := [("quietus/gf.high", laid_quietus_gf_high)], narrowed := true }
def RebuildIsLeastUptoSaid : Prop := rebuildIsLeastUptoRow.holds Tryd.pinned (OpenSpec.upto rebuildIsLeastSpec)

/-- 'quietuslaw08.RebuildIsMonotone', WHERE WHAT IT READS IS OF BULK AT MOST 1048576: true; the input reads as it did. -/
def rebuildIsMonotoneUptoRow : OpenClaim := { program := "ytdmljilcbndmfaadoor", sum := "8ab16cc5c7289e1b437aec6f47ed764f54ca931de496d64d092fc93b63b526fa", func := "quietus/quietuslaw08.RebuildIsMonotone", spec := "rebuildIsMonotone", unfollowed := true, recurses := true, named := ["quietus/gf.high"], apart := false, laid := [("quietus/gf.high", laid_quietus_gf_high)], narrowed := true }
def RebuildIsMonotoneUptoSaid : Prop := rebuildIsMonotoneUptoRow.holds Tryd.pinned (OpenSpec.upto rebuildIsMonotoneSpec)

/-- 'quietuslaw08.RebuildReadsTogether', WHERE WHAT IT READS IS OF BULK AT MOST 1048576: true; the input reads as it did. -/
def rebuildReadsTogetherUptoRow : OpenClaim := { program := "ytdmljilcbndmfaadoor", sum := "8ab16cc5c7289e1b437aec6f47ed764f54ca931de496d64d092fc93b63b526fa", func := "quietus/quietuslaw08.RebuildReadsTogether", spec := "rebuildReadsTogether", unfollowed := true, recurses := true, named := ["quietus/gf.high"], apart := false, laid := [("quietus/gf.high", laid_quietus_gf_high)], narrowed := true }
def RebuildReadsTogetherUptoSaid : Prop := rebuildReadsTogetherUptoRow.holds Tryd.pinned (OpenSpec.upto rebuildReadsTogetherSpec)

/-- 'quietuslaw08.RebuildRestores', WHERE WHAT IT READS IS OF BULK AT MOST 1048576: true; the input reads as it did. -/
def rebuildRestoresUptoRow : OpenClaim := { program := "ytdmljilcbndmfaadoor", sum := "8ab16cc5c7289e1b437aec6f47ed764f54ca931de496d64d092fc93b63b526fa", func := "quietus/quietuslaw08.RebuildRestores", spec := "rebuildRestores", unfollowed := true, recurses := true, named := ["quietus/gf.high"], apart := false, laid := [("quietus/gf.high", laid_quietus_gf_high)], narrowed := true }
def RebuildRestoresUptoSaid : Prop := rebuildRestoresUptoRow.holds Tryd.pinned (OpenSpec.upto rebuildRestoresSpec)

end Rows
end Go.Proofs.YtdmljilcbndmfaaDoor
