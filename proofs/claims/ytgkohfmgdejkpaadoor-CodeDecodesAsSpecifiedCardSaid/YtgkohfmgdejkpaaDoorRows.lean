/-
  NARROWER THAN 'FOR EVERY INPUT', by the rows' own cells (each row's printed sentence says how): CodeEncodesAsSpecified: laid · CodeDecodesAsSpecified: laid · CodeDistanceIsLeast: laid.
  DERIVED. THE GIVEN ROWS OF THIS SEAT. 3 by the template 'for every input the law returns true; each argument reads behind the call as it read before'; 0 by the template 'total and deterministic' (their statements: YtgkohfmgdejkpaaDoorTotals.lean).
  GIVEN WITH THE SEED: the statements are not yours to turn. If you find one false, say at which input.
  Laid BY PROGRAM, IN A SANDBOX (cutbox-rows.mjs): the forced cells as the released guide's own fill.sh prints them over the translation 2b8db4c021470524… (all of the seat's roots in one cut). By AI agents, Wed Nov 11 2026. No macro, syntax, notation, axiom, sorry.
-/
import Derived.Test.YtgkohfmgdejkpaaDoorChecked
import GoSem.Claim
import GoSem.ClaimJoined
import GoSem.ClaimMapViews
import Derived.JoinedTies
import Derived.KernelRfl
namespace Go.Proofs.YtgkohfmgdejkpaaDoor
/- THE CELL 'sum', in the pinned program and in every row, IS THE sha256 OF THE DUMP (.gsa) THAT YtgkohfmgdejkpaaDoorProg.lean LOADS. Nothing in Lean hashes anything: it is a label: what it is worth is what the hold of that sum in a sandbox is worth. -/
noncomputable def Tryd.pinned : Pinned := { name := "ytgkohfmgdejkpaadoor", sum := "2b8db4c021470524cf60c79ad3697e67c20edc3200ebb640a04ea20863f0ac6f", checked := Tryd.checked }
namespace Rows
def none {H : Type} : Left H := { results := [], args := [] }

/- WHAT THE LISTED PACKAGE-LEVEL VARIABLES READ AS WHEN THE CALL BEGINS. Each datum BY PROGRAM (the guide's laid-datum.mjs) off the statement by which the dump's own 'gosem.cut.vars' lays the variable. In a bare row this is a premise. The card (YtgkohfmgdejkpaaDoorCards.lean) ties it to the program's text. -/
def laid_quietus_gf_high {H : Type} : DataW H := .agg [.lit (.int .u8 0), .lit (.int .u8 29), .lit (.int .u8 58), .lit (.int .u8 39), .lit (.int .u8 116), .lit (.int .u8 105), .lit (.int .u8 78), .lit (.int .u8 83), .lit (.int .u8 232), .lit (.int .u8 245), .lit (.int .u8 210), .lit (.int .u8 207), .lit (.int .u8 156), .lit (.int .u8 129), .lit (.int .u8 166), .lit (.int .u8 187)]

/-- 'quietuslaw07.CodeEncodesAsSpecified': WHATEVER THE INPUT: true; the input reads as it did. -/
def codeEncodesAsSpecifiedSpec : ChangeSpec := { name := "codeEncodesAsSpecified", fn := fun _ => fun
  | [d1, d2, d3] => { results := [.lit (.bool true)], args := [d1, d2, d3] }
  | _ => none }
def codeEncodesAsSpecifiedRow : OpenClaim := { program := "ytgkohfmgdejkpaadoor", sum := "2b8db4c021470524cf60c79ad3697e67c20edc3200ebb640a04ea20863f0ac6f", func := "quietus/quietuslaw07.CodeEncodesAsSpecified", spec := "codeEncodesAsSpecified", unfollowed := true, recurses := true, named := ["quietus/gf.high"], apart := false, laid := [("quietus/gf.high", laid_quietus_gf_high)] }
def CodeEncodesAsSpecifiedSaid : Prop := codeEncodesAsSpecifiedRow.holds Tryd.pinned (OpenSpec.ofChange codeEncodesAsSpecifiedSpec)

/-- ITS FALSE NEIGHBOUR: 'it returns false'. Refute it at one input. -/
def codeEncodesAsSpecifiedWrong : ChangeSpec := { name := "codeEncodesAsSpecified", fn := fun _ => fun
  | [d1, d2, d3] => { results := [.lit (.bool false)], args := [d1, d2, d3] }
  | _ => none }
def CodeEncodesAsSpecifiedWrongFalsely : Prop := codeEncodesAsSpecifiedRow.holds Tryd.pinned (OpenSpec.ofChange codeEncodesAsSpecifiedWrong)

/-- 'quietuslaw07.CodeDecodesAsSpecified': WHATEVER THE INPUT: true; the input reads as it did. -/
def codeDecodesAsSpecifiedSpec : ChangeSpec := { name := "codeDecodesAsSpecified", fn := fun _ => fun
  | [d1, d2, d3] => { results := [.lit (.bool true)], args := [d1, d2, d3] }
  | _ => none }
def codeDecodesAsSpecifiedRow : OpenClaim := { program := "ytgkohfmgdejkpaadoor", sum := "2b8db4c021470524cf60c79ad3697e67c20edc3200ebb640a04ea20863f0ac6f", func := "quietus/quietuslaw07.CodeDecodesAsSpecified", spec := "codeDecodesAsSpecified", unfollowed := true, recurses := true, named := ["quietus/gf.high"], apart := false, laid := [("quietus/gf.high", laid_quietus_gf_high)] }
def CodeDecodesAsSpecifiedSaid : Prop := codeDecodesAsSpecifiedRow.holds Tryd.pinned (OpenSpec.ofChange codeDecodesAsSpecifiedSpec)

/-- ITS FALSE NEIGHBOUR: 'it returns false'. Refute it at one input. -/
def codeDecodesAsSpecifiedWrong : ChangeSpec := { name := "codeDecodesAsSpecified", fn := fun _ => fun
  | [d1, d2, d3] => { results := [.lit (.bool false)], args := [d1, d2, d3] }
  | _ => none }
def CodeDecodesAsSpecifiedWrongFalsely : Prop := codeDecodesAsSpecifiedRow.holds Tryd.pinned (OpenSpec.ofChange codeDecodesAsSpecifiedWrong)

/-- 'quietuslaw07.CodeDistanceIsLeast': WHATEVER THE INPUT: true; the input reads as it did. -/
def codeDistanceIsLeastSpec : ChangeSpec := { name := "codeDistanceIsLeast", fn := fun _ => fun
  | [d1, d2, d3] => { results := [.lit (.bool true)], args := [d1, d2, d3] }
  | _ => none }
def codeDistanceIsLeastRow : OpenClaim := { program := "ytgkohfmgdejkpaadoor", sum := "2b8db4c021470524cf60c79ad3697e67c20edc3200ebb640a04ea20863f0ac6f", func := "quietus/quietuslaw07.CodeDistanceIsLeast", spec := "codeDistanceIsLeast", unfollowed := true, recurses := true, named := ["quietus/gf.high"], apart := false, laid := [("quietus/gf.high", laid_quietus_gf_high)] }
def CodeDistanceIsLeastSaid : Prop := codeDistanceIsLeastRow.holds Tryd.pinned (OpenSpec.ofChange codeDistanceIsLeastSpec)

/-- ITS FALSE NEIGHBOUR: 'it returns false'. Refute it at one input. -/
def codeDistanceIsLeastWrong : ChangeSpec := { name := "codeDistanceIsLeast", fn := fun _ => fun
  | [d1, d2, d3] => { results := [.lit (.bool false)], args := [d1, d2, d3] }
  | _ => none }
def CodeDistanceIsLeastWrongFalsely : Prop := codeDistanceIsLeastRow.holds Tryd.pinned (OpenSpec.ofChange codeDistanceIsLeastWrong)

/- THE SECOND FORM. 'bulk': how many values and letters a reading holds, each counted each time it is reached (what is shared counts as often as it is met; a slice's spare places count too). A statement '..UptoSaid' is the law's where the arguments, and the package variables that the reading takes, are together of bulk at most 1048576: NARROWER than '..Said'. Prove '..Said' where nothing that the law and all that it calls make is longer than what came in: it says more and counts as full. Else prove '..UptoSaid'. A law counts once. -/
mutual
def uptoBulk {H : Type} : DataW H → Nat
  | .lit (.string bytes) => bytes.length + 1
  | .lit _ => 1
  | .nil => 1
  | .ptr d => uptoBulk d + 1
  | .slice elems spare => uptoBulkAll elems + uptoBulkAll spare + 1
  | .agg parts => uptoBulkAll parts + 1
  | .iface _ d => uptoBulk d + 1
  | .map entries => uptoBulkEntries entries + 1
  | .held _ => 1
def uptoBulkAll {H : Type} : List (DataW H) → Nat
  | [] => 0
  | d :: r => uptoBulk d + uptoBulkAll r
def uptoBulkEntries {H : Type} : List (Lit × DataW H) → Nat
  | [] => 0
  | x :: r => uptoBulkEntry x + uptoBulkEntries r
def uptoBulkEntry {H : Type} : Lit × DataW H → Nat
  | (.string bytes, d) => bytes.length + uptoBulk d + 1
  | (_, d) => uptoBulk d + 1
 end
def uptoSmall : (H : Type) → List (DataW H) → Bool := fun _ ds => decide (uptoBulkAll ds ≤ 1048576)
def OpenSpec.upto (s : _root_.Go.ChangeSpec) : _root_.Go.OpenSpec := { _root_.Go.OpenSpec.ofChange s with cond := some uptoSmall }

/-- 'quietuslaw07.CodeEncodesAsSpecified', WHERE WHAT IT READS IS OF BULK AT MOST 1048576: true; the input reads as it did. -/
def codeEncodesAsSpecifiedUptoRow : OpenClaim := { program := "ytgkohfmgdejkpaadoor", sum := "2b8db4c021470524cf60c79ad3697e67c20edc3200ebb640a04ea20863f0ac6f", func := "quietus/quietuslaw07.CodeEncodesAsSpecified", spec := "codeEncodesAsSpecified", unfollowed := true, recurses := true, named := ["quietus/gf.high"], apart := false, laid := [("quietus/gf.high", laid_quietus_gf_high)], narrowed := true }
def CodeEncodesAsSpecifiedUptoSaid : Prop := codeEncodesAsSpecifiedUptoRow.holds Tryd.pinned (OpenSpec.upto codeEncodesAsSpecifiedSpec)

/-- 'quietuslaw07.CodeDecodesAsSpecified', WHERE WHAT IT READS IS OF BULK AT MOST 1048576: true; the input reads as it did. -/
def codeDecodesAsSpecifiedUptoRow : OpenClaim := { program := "ytgkohfmgdejkpaadoor", sum := "2b8db4c021470524cf60c79ad3697e67c20edc3200ebb640a04ea20863f0ac6f", func := "quietus/quietuslaw07.CodeDecodesAsSpecified", spec := "codeDecodesAsSpecified", unfollowed := true, recurses := true, named := ["quietus/gf.high"], apart := false, laid := [("quietus/gf.high", laid_quietus_gf_high)], narrowed := true }
def CodeDecodesAsSpecifiedUptoSaid : Prop := codeDecodesAsSpecifiedUptoRow.holds Tryd.pinned (OpenSpec.upto codeDecodesAsSpecifiedSpec)

/-- 'quietuslaw07.CodeDistanceIsLeast', WHERE WHAT IT READS IS OF BULK AT MOST 1048576: true; the input reads as it did. -/
def codeDistanceIsLeastUptoRow : OpenClaim := { program := "ytgkohfmgdejkpaadoor", sum := "2b8db4c021470524cf60c79ad3697e67c20edc3200ebb640a04ea20863f0ac6f", func := "quietus/quietuslaw07.CodeDistanceIsLeast", spec := "codeDistanceIsLeast", unfollowed := true, recurses := true, named := ["quietus/gf.high"], apart := false, laid := [("quietus/gf.high", laid_quietus_gf_high)], narrowed := true }
def CodeDistanceIsLeastUptoSaid : Prop := codeDistanceIsLeastUptoRow.holds Tryd.pinned (OpenSpec.upto codeDistanceIsLeastSpec)

end Rows
end Go.Proofs.YtgkohfmgdejkpaaDoor
