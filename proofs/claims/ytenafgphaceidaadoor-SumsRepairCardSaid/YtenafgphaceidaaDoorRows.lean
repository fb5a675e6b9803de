/-
  NARROWER THAN 'FOR EVERY INPUT', by the rows' own cells (each row's printed sentence says how): SumsAreAsSpecified: laid · SumsTreesAreLeast: laid · SumsCarryAsSpecified: laid · SumsArrive: laid · SumsRepair: laid.
  DERIVED. THE GIVEN ROWS OF THIS SEAT. 5 by the template 'for every input the law returns true; each argument reads behind the call as it read before'; 0 by the template 'total and deterministic' (their statements: YtenafgphaceidaaDoorTotals.lean).
  GIVEN WITH THE SEED: the statements are not yours to turn. If you find one false, say at which input.
  Laid BY PROGRAM, IN A SANDBOX (cutbox-rows.mjs): the forced cells as the released guide's own fill.sh prints them over the translation 381539510c3627a1… (all of the seat's roots in one cut). By AI agents, Wed Nov 11 2026. No macro, syntax, notation, axiom, sorry.
-/
import Derived.Test.YtenafgphaceidaaDoorChecked
import GoSem.Claim
import GoSem.ClaimJoined
import GoSem.ClaimMapViews
import Derived.JoinedTies
import Derived.KernelRfl
namespace Go.Proofs.YtenafgphaceidaaDoor
/- THE CELL 'sum', in the pinned program and in every row, IS THE sha256 OF THE DUMP (.gsa) THAT YtenafgphaceidaaDoorProg.lean LOADS. Nothing in Lean hashes anything: it is a label: what it is worth is what the hold of that sum in a sandbox is worth. -/
noncomputable def Tryd.pinned : Pinned := { name := "ytenafgphaceidaadoor", sum := "381539510c3627a17791241a1fd1870e489a6d0797ead11c45d95b63826f3ea6", checked := Tryd.checked }
namespace Rows
def none {H : Type} : Left H := { results := [], args := [] }

/- WHAT THE LISTED PACKAGE-LEVEL VARIABLES READ AS WHEN THE CALL BEGINS. Each datum BY PROGRAM (the guide's laid-datum.mjs) off the statement by which the dump's own 'gosem.cut.vars' lays the variable. In a bare row this is a premise. The card (YtenafgphaceidaaDoorCards.lean) ties it to the program's text. -/
def laid_quietus_gf_high {H : Type} : DataW H := .agg [.lit (.int .u8 0), .lit (.int .u8 29), .lit (.int .u8 58), .lit (.int .u8 39), .lit (.int .u8 116), .lit (.int .u8 105), .lit (.int .u8 78), .lit (.int .u8 83), .lit (.int .u8 232), .lit (.int .u8 245), .lit (.int .u8 210), .lit (.int .u8 207), .lit (.int .u8 156), .lit (.int .u8 129), .lit (.int .u8 166), .lit (.int .u8 187)]

/-- 'quietuslaw19.SumsAreAsSpecified': WHATEVER THE INPUT: true; the input reads as it did. -/
def sumsAreAsSpecifiedSpec : ChangeSpec := { name := "sumsAreAsSpecified", fn := fun _ => fun
  | [d1, d2] => { results := [.lit (.bool true)], args := [d1, d2] }
  | _ => none }
def sumsAreAsSpecifiedRow : OpenClaim := { program := "ytenafgphaceidaadoor", sum := "381539510c3627a17791241a1fd1870e489a6d0797ead11c45d95b63826f3ea6", func := "quietus/quietuslaw19.SumsAreAsSpecified", spec := "sumsAreAsSpecified", unfollowed := true, recurses := true, named := ["quietus/gf.high"], plainKeys := false, apart := false, laid := [("quietus/gf.high", laid_quietus_gf_high)] }
def SumsAreAsSpecifiedSaid : Prop := sumsAreAsSpecifiedRow.holds Tryd.pinned (OpenSpec.ofChange sumsAreAsSpecifiedSpec)

/-- ITS FALSE NEIGHBOUR: 'it returns false'. Refute it at one input. -/
def sumsAreAsSpecifiedWrong : ChangeSpec := { name := "sumsAreAsSpecified", fn := fun _ => fun
  | [d1, d2] => { results := [.lit (.bool false)], args := [d1, d2] }
  | _ => none }
def SumsAreAsSpecifiedWrongFalsely : Prop := sumsAreAsSpecifiedRow.holds Tryd.pinned (OpenSpec.ofChange sumsAreAsSpecifiedWrong)

/-- 'quietuslaw19.SumsTreesAreLeast': WHATEVER THE INPUT: true; the input reads as it did. -/
def sumsTreesAreLeastSpec : ChangeSpec := { name := "sumsTreesAreLeast", fn := fun _ => fun
  | [d1, d2, d3] => { results := [.lit (.bool true)], args := [d1, d2, d3] }
  | _ => none }
def sumsTreesAreLeastRow : OpenClaim := { program := "ytenafgphaceidaadoor", sum := "381539510c3627a17791241a1fd1870e489a6d0797ead11c45d95b63826f3ea6", func := "quietus/quietuslaw19.SumsTreesAreLeast", spec := "sumsTreesAreLeast", unfollowed := true, recurses := true, named := ["quietus/gf.high"], plainKeys := false, apart := false, laid := [("quietus/gf.high", laid_quietus_gf_high)] }
def SumsTreesAreLeastSaid : Prop := sumsTreesAreLeastRow.holds Tryd.pinned (OpenSpec.ofChange sumsTreesAreLeastSpec)

/-- ITS FALSE NEIGHBOUR: 'it returns false'. Refute it at one input. -/
def sumsTreesAreLeastWrong : ChangeSpec := { name := "sumsTreesAreLeast", fn := fun _ => fun
  | [d1, d2, d3] => { results := [.lit (.bool false)], args := [d1, d2, d3] }
  | _ => none }
def SumsTreesAreLeastWrongFalsely : Prop := sumsTreesAreLeastRow.holds Tryd.pinned (OpenSpec.ofChange sumsTreesAreLeastWrong)

/-- 'quietuslaw19.SumsCarryAsSpecified': WHATEVER THE INPUT: true; the input reads as it did. -/
def sumsCarryAsSpecifiedSpec : ChangeSpec := { name := "sumsCarryAsSpecified", fn := fun _ => fun
  | [d1, d2, d3, d4] => { results := [.lit (.bool true)], args := [d1, d2, d3, d4] }
  | _ => none }
def sumsCarryAsSpecifiedRow : OpenClaim := { program := "ytenafgphaceidaadoor", sum := "381539510c3627a17791241a1fd1870e489a6d0797ead11c45d95b63826f3ea6", func := "quietus/quietuslaw19.SumsCarryAsSpecified", spec := "sumsCarryAsSpecified", unfollowed := true, recurses := true, named := ["quietus/gf.high"], plainKeys := false, apart := false, laid := [("quietus/gf.high", laid_quietus_gf_high)] }
def SumsCarryAsSpecifiedSaid : Prop := sumsCarryAsSpecifiedRow.holds Tryd.pinned (OpenSpec.ofChange sumsCarryAsSpecifiedSpec)

/-- ITS FALSE NEIGHBOUR: 'it returns false'. Refute it at one input. -/
def sumsCarryAsSpecifiedWrong : ChangeSpec := { name := "sumsCarryAsSpecified", fn := fun _ => fun
  | [d1, d2, d3, d4] => { results := [.lit (.bool false)], args := [d1, d2, d3, d4] }
  | _ => none }
def SumsCarryAsSpecifiedWrongFalsely : Prop := sumsCarryAsSpecifiedRow.holds Tryd.pinned (OpenSpec.ofChange sumsCarryAsSpecifiedWrong)

/-- 'quietuslaw19.SumsArrive': WHATEVER THE INPUT: true; the input reads as it did. -/
def sumsArriveSpec : ChangeSpec := { name := "sumsArrive", fn := fun _ => fun
  | [d1, d2, d3, d4] => { results := [.lit (.bool true)], args := [d1, d2, d3, d4] }
  | _ => none }
def sumsArriveRow : OpenClaim := { program := "ytenafgphaceidaadoor", sum := "381539510c3627a17791241a1fd1870e489a6d0797ead11c45d95b63826f3ea6", func := "quietus/quietuslaw19.SumsArrive", spec := "sumsArrive", unfollowed := true, recurses := true, named := ["quietus/gf.high"], plainKeys := false, apart := false, laid := [("quietus/gf.high", laid_quietus_gf_high)] }
def SumsArriveSaid : Prop := sumsArriveRow.holds Tryd.pinned (OpenSpec.ofChange sumsArriveSpec)

/-- ITS FALSE NEIGHBOUR: 'it returns false'. Refute it at one input. -/
def sumsArriveWrong : ChangeSpec := { name := "sumsArrive", fn := fun _ => fun
  | [d1, d2, d3, d4] => { results := [.lit (.bool false)], args := [d1, d2, d3, d4] }
  | _ => none }
def SumsArriveWrongFalsely : Prop := sumsArriveRow.holds Tryd.pinned (OpenSpec.ofChange sumsArriveWrong)

/-- 'quietuslaw19.SumsRepair': WHATEVER THE INPUT: true; the input reads as it did. -/
def sumsRepairSpec : ChangeSpec := { name := "sumsRepair", fn := fun _ => fun
  | [d1, d2, d3, d4] => { results := [.lit (.bool true)], args := [d1, d2, d3, d4] }
  | _ => none }
def sumsRepairRow : OpenClaim := { program := "ytenafgphaceidaadoor", sum := "381539510c3627a17791241a1fd1870e489a6d0797ead11c45d95b63826f3ea6", func := "quietus/quietuslaw19.SumsRepair", spec := "sumsRepair", unfollowed := true, recurses := true, named := ["quietus/gf.high"], plainKeys := false, apart := false, laid := [("quietus/gf.high", laid_quietus_gf_high)] }
def SumsRepairSaid : Prop := sumsRepairRow.holds Tryd.pinned (OpenSpec.ofChange sumsRepairSpec)

/-- ITS FALSE NEIGHBOUR: 'it returns false'. Refute it at one input. -/
def sumsRepairWrong : ChangeSpec := { name := "sumsRepair", fn := fun _ => fun
  | [d1, d2, d3, d4] => { results := [.lit (.bool false)], args := [d1, d2, d3, d4] }
  | _ => none }
def SumsRepairWrongFalsely : Prop := sumsRepairRow.holds Tryd.pinned (OpenSpec.ofChange sumsRepairWrong)

/- THE SECOND FORM. 'bulk': how many values and letters a reading holds, each counted each time it is reached (what is shared counts as often as it is met; a slice's spare places count too). A statement '..UptoSaid' is the law's where the arguments, and the package variables that the reading takes, are together of bulk at most 1048576: NARROWER than '..Said'. Prove '..Said' where nothing that the law and all that it calls make is longer than what came in: it says more and counts as full. Else prove '..UptoSaid'. A law counts once. -/
mutual
def uptoBulk {H : Type} : DataW H → Nat
  | .lit (.string bytes) => bytes.length + 1
  | .lit _ => 1
  | .nil => 1
  | .ptr d => uptoBulk d + 1
  | .slice elems spare => uptoBulkAll elems + uptoBulkAll spare + 1
  | .agg parts => uptoBulkAll parts + 1
  | .iface _ d => uptoBulk d + 1
  | .map entries => uptoBulkEntries entries + 1
  | .held _ => 1
def uptoBulkAll {H : Type} : List (DataW H) → Nat
  | [] => 0
  | d :: r => uptoBulk d + uptoBulkAll r
def uptoBulkEntries {H : Type} : List (Lit × DataW H) → Nat
  | [] => 0
  | x :: r => uptoBulkEntry x + uptoBulkEntries r
def uptoBulkEntry {H : Type} : Lit × DataW H → Nat
  | (.string bytes, d) => bytes.length + uptoBulk d + 1
  | (_, d) => uptoBulk d + 1
 end
def uptoSmall : (H : Type) → List (DataW H) → Bool := fun _ ds => decide (uptoBulkAll ds ≤ 1048576)
def OpenSpec.upto (s : _root_.Go.ChangeSpec) : _root_.Go.OpenSpec := { _root_.Go.OpenSpec.ofChange s with cond := some uptoSmall }

/-- 'quietuslaw19.SumsAreAsSpecified', WHERE WHAT IT READS IS OF BULK AT MOST 1048576: true; the input reads as it did. -/
def sumsAreAsSpecifiedUptoRow : OpenClaim := { program := "ytenafgphaceidaadoor", sum := "381539510c3627a17791241a1fd1870e489a6d0797ead11c45d95b63826f3ea6", func := "quietus/quietuslaw19.SumsAreAsSpecified", spec := "sumsAreAsSpecified", unfollowed := true, recurses := true, named := ["quietus/gf.high"], plainKeys := false, apart := false, laid := [("quietus/gf.high", laid_quietus_gf_high)], narrowed := true }
def SumsAreAsSpecifiedUptoSaid : Prop := sumsAreAsSpecifiedUptoRow.holds Tryd.pinned (OpenSpec.upto sumsAreAsSpecifiedSpec)

/-- 'quietuslaw19.SumsTreesAreLeast', WHERE WHAT IT READS IS OF BULK AT MOST 1048576: true; the input reads as it did. -/
def sumsTreesAreLeastUptoRow : OpenClaim := { program := "ytenafgphaceidaadoor", sum := "381539510c3627a17791241a1fd1870e489a6d0797ead11c45d95b63826f3ea6", func := "quietus/quietuslaw19.SumsTreesAreLeast", spec := "sumsTreesAreLeast", unfollowed := true, recurses := true, named := ["quietus/gf.high"], plainKeys := false, apart := false, laid := [("quietus/gf.high", laid_quietus_gf_high)], narrowed := true }
def SumsTreesAreLeastUptoSaid : Prop := sumsTreesAreLeastUptoRow.holds Tryd.pinned (OpenSpec.upto sumsTreesAreLeastSpec)

/-- 'quietuslaw19.SumsCarryAsSpecified', WHERE WHAT IT READS IS OF BULK AT MOST 1048576: true; the input reads as it did. -/
def sumsCarryAsSpecifiedUptoRow : OpenClaim := { program := "ytenafgphaceidaadoor", sum := "381539510c3627a17791241a1fd1870e489a6d0797ead11c45d95b63826f3ea6", func := "quietus/quietuslaw19.SumsCarryAsSpecified", spec := "sumsCarryAsSpecified", unfollowed := true, recurses := true, named := ["quietus/gf.high"], plainKeys := false, apart := false, laid := [("quietus/gf.high", laid_quietus_gf_high)], narrowed := true }
def SumsCarryAsSpecifiedUptoSaid : Prop := sumsCarryAsSpecifiedUptoRow.holds Tryd.pinned (OpenSpec.upto sumsCarryAsSpecifiedSpec)

/-- 'quietuslaw19.SumsArrive', WHERE WHAT IT READS IS OF BULK AT MOST 1048576: true; the input reads as it did. -/
def sumsArriveUptoRow : OpenClaim := { program := "ytenafgphaceidaadoor", sum := "381539510c3627a17791241a1fd1870e489a6d0797ead11c45d95b63826f3ea6", func := "quietus/quietuslaw19.SumsArrive", spec := "sumsArrive", unfollowed := true, recurses := true, named := ["quietus/gf.high"], plainKeys := false, apart := false, laid := [("quietus/gf.high", laid_quietus_gf_high)], narrowed := true }
def SumsArriveUptoSaid : Prop := sumsArriveUptoRow.holds Tryd.pinned (OpenSpec.upto sumsArriveSpec)

/-- 'quietuslaw19.SumsRepair', WHERE WHAT IT READS IS OF BULK AT MOST 1048576: true; the input reads as it did. -/
def sumsRepairUptoRow : OpenClaim := { program := "ytenafgphaceidaadoor", sum := "381539510c3627a17791241a1fd1870e489a6d0797ead11c45d95b63826f3ea6", func := "quietus/quietuslaw19.SumsRepair", spec := "sumsRepair", unfollowed := true, recurses := true, named := ["quietus/gf.high"], plainKeys := false, apart := false, laid := [("quietus/gf.high", laid_quietus_gf_high)], narrowed := true }
def SumsRepairUptoSaid : Prop := sumsRepairUptoRow.holds Tryd.pinned (OpenSpec.upto sumsRepairSpec)

end Rows
end Go.Proofs.YtenafgphaceidaaDoor
