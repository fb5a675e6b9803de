/-
  NARROWER THAN 'FOR EVERY INPUT', by the rows' own cells (each row's printed sentence says how): MovesCheckAsSpecified: laid · MovesPlanAsSpecified: laid · MovesGoOn: laid · MovesRelax: laid · MovesKeepTheFloor: laid.
  DERIVED. THE GIVEN ROWS OF THIS SEAT. 5 by the template 'for every input the law returns true; each argument reads behind the call as it read before'; 0 by the template 'total and deterministic' (their statements: YtkbiffbmjgmcaaaDoorTotals.lean).
  GIVEN WITH THE SEED: the statements are not yours to turn. If you find one false, say at which input.
  Laid BY PROGRAM, IN A SANDBOX (cutbox-rows.mjs): the forced cells as the released guide's own fill.sh prints them over the translation 8e3a9fff5c81769f… (all of the seat's roots in one cut). By AI agents, Wed Nov 11 2026. No macro, syntax, notation, axiom, sorry.
-/
import Derived.Test.YtkbiffbmjgmcaaaDoorChecked
import GoSem.Claim
import GoSem.ClaimJoined
import GoSem.ClaimMapViews
import Derived.JoinedTies
import Derived.KernelRfl
namespace Go.Proofs.YtkbiffbmjgmcaaaDoor
/- THE CELL 'sum', in the pinned program and in every row, IS THE sha256 OF THE DUMP (.gsa) THAT YtkbiffbmjgmcaaaDoorProg.lean LOADS. Nothing in Lean hashes anything: it is a label: what it is worth is what the hold of that sum in a sandbox is worth. -/
noncomputable def Tryd.pinned : Pinned := { name := "ytkbiffbmjgmcaaadoor", sum := "8e3a9fff5c81769f801e55d018b89938208cb237265ad77131555db38e679937", checked := Tryd.checked }
namespace Rows
def none {H : Type} : Left H := { results := [], args := [] }

/- WHAT THE LISTED PACKAGE-LEVEL VARIABLES READ AS WHEN THE CALL BEGINS. Each datum BY PROGRAM (the guide's laid-datum.mjs) off the statement by which the dump's own 'gosem.cut.vars' lays the variable. In a bare row this is a premise. The card (YtkbiffbmjgmcaaaDoorCards.lean) ties it to the program's text. -/
def laid_quietus_gf_high {H : Type} : DataW H := .agg [.lit (.int .u8 0), .lit (.int .u8 29), .lit (.int .u8 58), .lit (.int .u8 39), .lit (.int .u8 116), .lit (.int .u8 105), .lit (.int .u8 78), .lit (.int .u8 83), .lit (.int .u8 232), .lit (.int .u8 245), .lit (.int .u8 210), .lit (.int .u8 207), .lit (.int .u8 156), .lit (.int .u8 129), .lit (.int .u8 166), .lit (.int .u8 187)]

/-- 'quietuslaw13.MovesCheckAsSpecified': WHATEVER THE INPUT: true; the input reads as it did. -/
def movesCheckAsSpecifiedSpec : ChangeSpec := { name := "movesCheckAsSpecified", fn := fun _ => fun
  | [d1, d2, d3] => { results := [.lit (.bool true)], args := [d1, d2, d3] }
  | _ => none }
def movesCheckAsSpecifiedRow : OpenClaim := { program := "ytkbiffbmjgmcaaadoor", sum := "8e3a9fff5c81769f801e55d018b89938208cb237265ad77131555db38e679937", func := "quietus/quietuslaw13.MovesCheckAsSpecified", spec := "movesCheckAsSpecified", unfollowed := true, recurses := true, named := ["quietus/gf.high"], plainKeys := false, apart := false, laid := [("quietus/gf.high", laid_quietus_gf_high)] }
def MovesCheckAsSpecifiedSaid : Prop := movesCheckAsSpecifiedRow.holds Tryd.pinned (OpenSpec.ofChange movesCheckAsSpecifiedSpec)

/-- ITS FALSE NEIGHBOUR: 'it returns false'. Refute it at one input. -/
def movesCheckAsSpecifiedWrong : ChangeSpec := { name := "movesCheckAsSpecified", fn := fun _ => fun
  | [d1, d2, d3] => { results := [.lit (.bool false)], args := [d1, d2, d3] }
  | _ => none }
def MovesCheckAsSpecifiedWrongFalsely : Prop := movesCheckAsSpecifiedRow.holds Tryd.pinned (OpenSpec.ofChange movesCheckAsSpecifiedWrong)

/-- 'quietuslaw13.MovesPlanAsSpecified': WHATEVER THE INPUT: true; the input reads as it did. -/
def movesPlanAsSpecifiedSpec : ChangeSpec := { name := "movesPlanAsSpecified", fn := fun _ => fun
  | [d1, d2] => { results := [.lit (.bool true)], args := [d1, d2] }
  | _ => none }
def movesPlanAsSpecifiedRow : OpenClaim := { program := "ytkbiffbmjgmcaaadoor", sum := "8e3a9fff5c81769f801e55d018b89938208cb237265ad77131555db38e679937", func := "quietus/quietuslaw13.MovesPlanAsSpecified", spec := "movesPlanAsSpecified", unfollowed := true, recurses := true, named := ["quietus/gf.high"], plainKeys := false, apart := false, laid := [("quietus/gf.high", laid_quietus_gf_high)] }
def MovesPlanAsSpecifiedSaid : Prop := movesPlanAsSpecifiedRow.holds Tryd.pinned (OpenSpec.ofChange movesPlanAsSpecifiedSpec)

/-- ITS FALSE NEIGHBOUR: 'it returns false'. Refute it at one input. -/
def movesPlanAsSpecifiedWrong : ChangeSpec := { name := "movesPlanAsSpecified", fn := fun _ => fun
  | [d1, d2] => { results := [.lit (.bool false)], args := [d1, d2] }
  | _ => none }
def MovesPlanAsSpecifiedWrongFalsely : Prop := movesPlanAsSpecifiedRow.holds Tryd.pinned (OpenSpec.ofChange movesPlanAsSpecifiedWrong)

/-- 'quietuslaw13.MovesGoOn': WHATEVER THE INPUT: true; the input reads as it did. -/
def movesGoOnSpec : ChangeSpec := { name := "movesGoOn", fn := fun _ => fun
  | [d1, d2, d3] => { results := [.lit (.bool true)], args := [d1, d2, d3] }
  | _ => none }
def movesGoOnRow : OpenClaim := { program := "ytkbiffbmjgmcaaadoor", sum := "8e3a9fff5c81769f801e55d018b89938208cb237265ad77131555db38e679937", func := "quietus/quietuslaw13.MovesGoOn", spec := "movesGoOn", unfollowed := true, recurses := true, named := ["quietus/gf.high"], plainKeys := false, apart := false, laid := [("quietus/gf.high", laid_quietus_gf_high)] }
def MovesGoOnSaid : Prop := movesGoOnRow.holds Tryd.pinned (OpenSpec.ofChange movesGoOnSpec)

/-- ITS FALSE NEIGHBOUR: 'it returns false'. Refute it at one input. -/
def movesGoOnWrong : ChangeSpec := { name := "movesGoOn", fn := fun _ => fun
  | [d1, d2, d3] => { results := [.lit (.bool false)], args := [d1, d2, d3] }
  | _ => none }
def MovesGoOnWrongFalsely : Prop := movesGoOnRow.holds Tryd.pinned (OpenSpec.ofChange movesGoOnWrong)

/-- 'quietuslaw13.MovesRelax': WHATEVER THE INPUT: true; the input reads as it did. -/
def movesRelaxSpec : ChangeSpec := { name := "movesRelax", fn := fun _ => fun
  | [d1, d2, d3] => { results := [.lit (.bool true)], args := [d1, d2, d3] }
  | _ => none }
def movesRelaxRow : OpenClaim := { program := "ytkbiffbmjgmcaaadoor", sum := "8e3a9fff5c81769f801e55d018b89938208cb237265ad77131555db38e679937", func := "quietus/quietuslaw13.MovesRelax", spec := "movesRelax", unfollowed := true, recurses := true, named := ["quietus/gf.high"], plainKeys := false, apart := false, laid := [("quietus/gf.high", laid_quietus_gf_high)] }
def MovesRelaxSaid : Prop := movesRelaxRow.holds Tryd.pinned (OpenSpec.ofChange movesRelaxSpec)

/-- ITS FALSE NEIGHBOUR: 'it returns false'. Refute it at one input. -/
def movesRelaxWrong : ChangeSpec := { name := "movesRelax", fn := fun _ => fun
  | [d1, d2, d3] => { results := [.lit (.bool false)], args := [d1, d2, d3] }
  | _ => none }
def MovesRelaxWrongFalsely : Prop := movesRelaxRow.holds Tryd.pinned (OpenSpec.ofChange movesRelaxWrong)

/-- 'quietuslaw13.MovesKeepTheFloor': WHATEVER THE INPUT: true; the input reads as it did. -/
def movesKeepTheFloorSpec : ChangeSpec := { name := "movesKeepTheFloor", fn := fun _ => fun
  | [d1, d2, d3] => { results := [.lit (.bool true)], args := [d1, d2, d3] }
  | _ => none }
def movesKeepTheFloorRow : OpenClaim := { program := "ytkbiffbmjgmcaaadoor", sum := "8e3a9fff5c81769f801e55d018b89938208cb237265ad77131555db38e679937", func := "quietus/quietuslaw13.MovesKeepTheFloor", spec := "movesKeepTheFloor", unfollowed := true, recurses := true, named := ["quietus/gf.high"], plainKeys := false, apart := false, laid := [("quietus/gf.high", laid_quietus_gf_high)] }
def MovesKeepTheFloorSaid : Prop := movesKeepTheFloorRow.holds Tryd.pinned (OpenSpec.ofChange movesKeepTheFloorSpec)

/-- ITS FALSE NEIGHBOUR: 'it returns false'. Refute it at one input. -/
def movesKeepTheFloorWrong : ChangeSpec := { name := "movesKeepTheFloor", fn := fun _ => fun
  | [d1, d2, d3] => { results := [.lit (.bool false)], args := [d1, d2, d3] }
  | _ => none }
def MovesKeepTheFloorWrongFalsely : Prop := movesKeepTheFloorRow.holds Tryd.pinned (OpenSpec.ofChange movesKeepTheFloorWrong)

/- THE SECOND FORM. 'bulk': how many values and letters a reading holds, each counted each time it is reached (what is shared counts as often as it is met; a slice's spare places count too). A statement '..UptoSaid' is the law's where the arguments, and the package variables that the reading takes, are together of bulk at most 1048576: NARROWER than '..Said'. Prove '..Said' where nothing that the law and all that it calls make is longer than what came in: it says more and counts as full. Else prove '..UptoSaid'. A law counts once. -/
mutual
def uptoBulk {H : Type} : DataW H → Nat
  | .lit (.string bytes) => bytes.length + 1
  | .lit _ => 1
  | .nil => 1
  | .ptr d => uptoBulk d + 1
  | .slice elems spare => uptoBulkAll elems + uptoBulkAll spare + 1
  | .agg parts => uptoBulkAll parts + 1
  | .iface _ d => uptoBulk d + 1
  | .map entries => uptoBulkEntries entries + 1
  | .held _ => 1
def uptoBulkAll {H : Type} : List (DataW H) → Nat
  | [] => 0
  | d :: r => uptoBulk d + uptoBulkAll r
def uptoBulkEntries {H : Type} : List (Lit × DataW H) → Nat
  | [] => 0
  | x :: r => uptoBulkEntry x + uptoBulkEntries r
def uptoBulkEntry {H : Type} : Lit × DataW H → Nat
  | (.string bytes, d) => bytes.length + uptoBulk d + 1
  | (_, d) => uptoBulk d + 1
 end
def uptoSmall : (H : Type) → List (DataW H) → Bool := fun _ ds => decide (uptoBulkAll ds ≤ 1048576)
def OpenSpec.upto (s : _root_.Go.ChangeSpec) : _root_.Go.OpenSpec := { _root_.Go.OpenSpec.ofChange s with cond := some uptoSmall }

/-- 'quietuslaw13.MovesCheckAsSpecified', WHERE WHAT IT READS IS OF BULK AT MOST 1048576: true; the input reads as it did. -/
def movesCheckAsSpecifiedUptoRow : OpenClaim := { program := "ytkbiffbmjgmcaaadoor", sum := "8e3a9fff5c81769f801e55d018b89938208cb237265ad77131555db38e679937", func := "quietus/quietuslaw13.MovesCheckAsSpecified", spec := "movesCheckAsSpecified", unfollowed := true, recurses := true, named := ["quietus/gf.high"], plainKeys := false, apart := false, laid := [("quietus/gf.high", laid_quietus_gf_high)], narrowed := true }
def MovesCheckAsSpecifiedUptoSaid : Prop := movesCheckAsSpecifiedUptoRow.holds Tryd.pinned (OpenSpec.upto movesCheckAsSpecifiedSpec)

/-- 'quietuslaw13.MovesPlanAsSpecified', WHERE WHAT IT READS IS OF BULK AT MOST 1048576: true; the input reads as it did. -/
def movesPlanAsSpecifiedUptoRow : OpenClaim := { program := "ytkbiffbmjgmcaaadoor", sum := "8e3a9fff5c81769f801e55d018b89938208cb237265ad77131555db38e679937", func := "quietus/quietuslaw13.MovesPlanAsSpecified", spec := "movesPlanAsSpecified", unfollowed := true, recurses := true, named := ["quietus/gf.high"], plainKeys := false, apart := false, laid := [("quietus/gf.high", laid_quietus_gf_high)], narrowed := true }
def MovesPlanAsSpecifiedUptoSaid : Prop := movesPlanAsSpecifiedUptoRow.holds Tryd.pinned (OpenSpec.upto movesPlanAsSpecifiedSpec)

/-- 'quietuslaw13.MovesGoOn', WHERE WHAT IT READS IS OF BULK AT MOST 1048576: true; the input reads as it did. -/
def movesGoOnUptoRow : OpenClaim := { program := "ytkbiffbmjgmcaaadoor", sum := "8e3a9fff5c81769f801e55d018b89938208cb237265ad77131555db38e679937", func := "quietus/quietuslaw13.MovesGoOn", spec := "movesGoOn", unfollowed := true, recurses := true, named := ["quietus/gf.high"], plainKeys := false, apart := false, laid := [("quietus/gf.high", laid_quietus_gf_high)], narrowed := true }
def MovesGoOnUptoSaid : Prop := movesGoOnUptoRow.holds Tryd.pinned (OpenSpec.upto movesGoOnSpec)

/-- 'quietuslaw13.MovesRelax', WHERE WHAT IT READS IS OF BULK AT MOST 1048576: true; the input reads as it did. -/
def movesRelaxUptoRow : OpenClaim := { program := "ytkbiffbmjgmcaaadoor", sum := "8e3a9fff5c81769f801e55d018b89938208cb237265ad77131555db38e679937", func := "quietus/quietuslaw13.MovesRelax", spec := "movesRelax", unfollowed := true, recurses := true, named := ["quietus/gf.high"], plainKeys := false, apart := false, laid := [("quietus/gf.high", laid_quietus_gf_high)], narrowed := true }
def MovesRelaxUptoSaid : Prop := movesRelaxUptoRow.holds Tryd.pinned (OpenSpec.upto movesRelaxSpec)

/-- 'quietuslaw13.MovesKeepTheFloor', WHERE WHAT IT READS IS OF BULK AT MOST 1048576: true; the input reads as it did. -/
def movesKeepTheFloorUptoRow : OpenClaim := { program := "ytkbiffbmjgmcaaadoor", sum := "8e3a9fff5c81769f801e55d018b89938208cb237265ad77131555db38e679937", func := "quietus/quietuslaw13.MovesKeepTheFloor", spec := "movesKeepTheFloor", unfollowed := true, recurses := true, named := ["quietus/gf.high"], plainKeys := false, apart := false, laid := [("quietus/gf.high", laid_quietus_gf_high)], narrowed := true }
def MovesKeepTheFloorUptoSaid : Prop := movesKeepTheFloorUptoRow.holds Tryd.pinned (OpenSpec.upto movesKeepTheFloorSpec)

end Rows
end Go.Proofs.YtkbiffbmjgmcaaaDoor
