/-
  NARROWER THAN 'FOR EVERY INPUT', by the rows' own cells (each row's printed sentence says how): LocateAsksAsSpecified: laid · LocateFindsAsSpecified: laid · LocateCorrects: laid · LocateNotices: laid · LocateClashes: laid · LocateNeeds: laid.
  DERIVED. THE GIVEN ROWS OF THIS SEAT. 6 by the template 'for every input the law returns true; each argument reads behind the call as it read before'; 0 by the template 'total and deterministic' (their statements: YtggfkpalkdkbdaaDoorTotals.lean).
  GIVEN WITH THE SEED: the statements are not yours to turn. If you find one false, say at which input.
  Laid BY PROGRAM, IN A SANDBOX (cutbox-rows.mjs): the forced cells as the released guide's own fill.sh prints them over the translation 75f6bd2f2c33b3d0… (all of the seat's roots in one cut). By AI agents, Wed Nov 11 2026. No macro, syntax, notation, axiom, sorry.
-/
import Derived.Test.YtggfkpalkdkbdaaDoorChecked
import GoSem.Claim
import GoSem.ClaimJoined
import GoSem.ClaimMapViews
import Derived.JoinedTies
import Derived.KernelRfl
namespace Go.Proofs.YtggfkpalkdkbdaaDoor
/- THE CELL 'sum', in the pinned program and in every row, IS THE sha256 OF THE DUMP (.gsa) THAT YtggfkpalkdkbdaaDoorProg.lean LOADS. Nothing in Lean hashes anything: it is a label: what it is worth is what the hold of that sum in a sandbox is worth. -/
noncomputable def Tryd.pinned : Pinned := { name := "ytggfkpalkdkbdaadoor", sum := "75f6bd2f2c33b3d09ce9911944c85ac3d081363438b80ad69ac86de130fbe662", checked := Tryd.checked }
namespace Rows
def none {H : Type} : Left H := { results := [], args := [] }

/- WHAT THE LISTED PACKAGE-LEVEL VARIABLES READ AS WHEN THE CALL BEGINS. Each datum BY PROGRAM (the guide's laid-datum.mjs) off the statement by which the dump's own 'gosem.cut.vars' lays the variable. In a bare row this is a premise. The card (YtggfkpalkdkbdaaDoorCards.lean) ties it to the program's text. -/
def laid_quietus_gf_high {H : Type} : DataW H := .agg [.lit (.int .u8 0), .lit (.int .u8 29), .lit (.int .u8 58), .lit (.int .u8 39), .lit (.int .u8 116), .lit (.int .u8 105), .lit (.int .u8 78), .lit (.int .u8 83), .lit (.int .u8 232), .lit (.int .u8 245), .lit (.int .u8 210), .lit (.int .u8 207), .lit (.int .u8 156), .lit (.int .u8 129), .lit (.int .u8 166), .lit (.int .u8 187)]

/-- 'quietuslaw09.LocateAsksAsSpecified': WHATEVER THE INPUT: true; the input reads as it did. -/
def locateAsksAsSpecifiedSpec : ChangeSpec := { name := "locateAsksAsSpecified", fn := fun _ => fun
  | [d1, d2, d3] => { results := [.lit (.bool true)], args := [d1, d2, d3] }
  | _ => none }
def locateAsksAsSpecifiedRow : OpenClaim := { program := "ytggfkpalkdkbdaadoor", sum := "75f6bd2f2c33b3d09ce9911944c85ac3d081363438b80ad69ac86de130fbe662", func := "quietus/quietuslaw09.LocateAsksAsSpecified", spec := "locateAsksAsSpecified", unfollowed := true, recurses := true, named := ["quietus/gf.high"], apart := false, laid := [("quietus/gf.high", laid_quietus_gf_high)] }
def LocateAsksAsSpecifiedSaid : Prop := locateAsksAsSpecifiedRow.holds Tryd.pinned (OpenSpec.ofChange locateAsksAsSpecifiedSpec)

/-- ITS FALSE NEIGHBOUR: 'it returns false'. Refute it at one input. -/
def locateAsksAsSpecifiedWrong : ChangeSpec := { name := "locateAsksAsSpecified", fn := fun _ => fun
  | [d1, d2, d3] => { results := [.lit (.bool false)], args := [d1, d2, d3] }
  | _ => none }
def LocateAsksAsSpecifiedWrongFalsely : Prop := locateAsksAsSpecifiedRow.holds Tryd.pinned (OpenSpec.ofChange locateAsksAsSpecifiedWrong)

/-- 'quietuslaw09.LocateFindsAsSpecified': WHATEVER THE INPUT: true; the input reads as it did. -/
def locateFindsAsSpecifiedSpec : ChangeSpec := { name := "locateFindsAsSpecified", fn := fun _ => fun
  | [d1, d2, d3, d4, d5] => { results := [.lit (.bool true)], args := [d1, d2, d3, d4, d5] }
  | _ => none }
def locateFindsAsSpecifiedRow : OpenClaim := { program := "ytggfkpalkdkbdaadoor", sum := "75f6bd2f2c33b3d09ce9911944c85ac3d081363438b80ad69ac86de130fbe662", func := "quietus/quietuslaw09.LocateFindsAsSpecified", spec := "locateFindsAsSpecified", unfollowed := true, recurses := true, named := ["quietus/gf.high"], apart := false, laid := [("quietus/gf.high", laid_quietus_gf_high)] }
def LocateFindsAsSpecifiedSaid : Prop := locateFindsAsSpecifiedRow.holds Tryd.pinned (OpenSpec.ofChange locateFindsAsSpecifiedSpec)

/-- ITS FALSE NEIGHBOUR: 'it returns false'. Refute it at one input. -/
def locateFindsAsSpecifiedWrong : ChangeSpec := { name := "locateFindsAsSpecified", fn := fun _ => fun
  | [d1, d2, d3, d4, d5] => { results := [.lit (.bool false)], args := [d1, d2, d3, d4, d5] }
  | _ => none }
def LocateFindsAsSpecifiedWrongFalsely : Prop := locateFindsAsSpecifiedRow.holds Tryd.pinned (OpenSpec.ofChange locateFindsAsSpecifiedWrong)

/-- 'quietuslaw09.LocateCorrects': WHATEVER THE INPUT: true; the input reads as it did. -/
def locateCorrectsSpec : ChangeSpec := { name := "locateCorrects", fn := fun _ => fun
  | [d1, d2] => { results := [.lit (.bool true)], args := [d1, d2] }
  | _ => none }
def locateCorrectsRow : OpenClaim := { program := "ytggfkpalkdkbdaadoor", sum := "75f6bd2f2c33b3d09ce9911944c85ac3d081363438b80ad69ac86de130fbe662", func := "quietus/quietuslaw09.LocateCorrects", spec := "locateCorrects", unfollowed := true, recurses := true, named := ["quietus/gf.high"], apart := false, laid := [("quietus/gf.high", laid_quietus_gf_high)] }
def LocateCorrectsSaid : Prop := locateCorrectsRow.holds Tryd.pinned (OpenSpec.ofChange locateCorrectsSpec)

/-- ITS FALSE NEIGHBOUR: 'it returns false'. Refute it at one input. -/
def locateCorrectsWrong : ChangeSpec := { name := "locateCorrects", fn := fun _ => fun
  | [d1, d2] => { results := [.lit (.bool false)], args := [d1, d2] }
  | _ => none }
def LocateCorrectsWrongFalsely : Prop := locateCorrectsRow.holds Tryd.pinned (OpenSpec.ofChange locateCorrectsWrong)

/-- 'quietuslaw09.LocateNotices': WHATEVER THE INPUT: true; the input reads as it did. -/
def locateNoticesSpec : ChangeSpec := { name := "locateNotices", fn := fun _ => fun
  | [d] => { results := [.lit (.bool true)], args := [d] }
  | _ => none }
def locateNoticesRow : OpenClaim := { program := "ytggfkpalkdkbdaadoor", sum := "75f6bd2f2c33b3d09ce9911944c85ac3d081363438b80ad69ac86de130fbe662", func := "quietus/quietuslaw09.LocateNotices", spec := "locateNotices", unfollowed := true, recurses := true, named := ["quietus/gf.high"], apart := false, laid := [("quietus/gf.high", laid_quietus_gf_high)] }
def LocateNoticesSaid : Prop := locateNoticesRow.holds Tryd.pinned (OpenSpec.ofChange locateNoticesSpec)

/-- ITS FALSE NEIGHBOUR: 'it returns false'. Refute it at one input. -/
def locateNoticesWrong : ChangeSpec := { name := "locateNotices", fn := fun _ => fun
  | [d] => { results := [.lit (.bool false)], args := [d] }
  | _ => none }
def LocateNoticesWrongFalsely : Prop := locateNoticesRow.holds Tryd.pinned (OpenSpec.ofChange locateNoticesWrong)

/-- 'quietuslaw09.LocateClashes': WHATEVER THE INPUT: true; the input reads as it did. -/
def locateClashesSpec : ChangeSpec := { name := "locateClashes", fn := fun _ => fun
  | [d] => { results := [.lit (.bool true)], args := [d] }
  | _ => none }
def locateClashesRow : OpenClaim := { program := "ytggfkpalkdkbdaadoor", sum := "75f6bd2f2c33b3d09ce9911944c85ac3d081363438b80ad69ac86de130fbe662", func := "quietus/quietuslaw09.LocateClashes", spec := "locateClashes", unfollowed := true, recurses := true, named := ["quietus/gf.high"], apart := false, laid := [("quietus/gf.high", laid_quietus_gf_high)] }
def LocateClashesSaid : Prop := locateClashesRow.holds Tryd.pinned (OpenSpec.ofChange locateClashesSpec)

/-- ITS FALSE NEIGHBOUR: 'it returns false'. Refute it at one input. -/
def locateClashesWrong : ChangeSpec := { name := "locateClashes", fn := fun _ => fun
  | [d] => { results := [.lit (.bool false)], args := [d] }
  | _ => none }
def LocateClashesWrongFalsely : Prop := locateClashesRow.holds Tryd.pinned (OpenSpec.ofChange locateClashesWrong)

/-- 'quietuslaw09.LocateNeeds': WHATEVER THE INPUT: true; the input reads as it did. -/
def locateNeedsSpec : ChangeSpec := { name := "locateNeeds", fn := fun _ => fun
  | [d1, d2, d3, d4] => { results := [.lit (.bool true)], args := [d1, d2, d3, d4] }
  | _ => none }
def locateNeedsRow : OpenClaim := { program := "ytggfkpalkdkbdaadoor", sum := "75f6bd2f2c33b3d09ce9911944c85ac3d081363438b80ad69ac86de130fbe662", func := "quietus/quietuslaw09.LocateNeeds", spec := "locateNeeds", unfollowed := true, recurses := true, named := ["quietus/gf.high"], apart := false, laid := [("quietus/gf.high", laid_quietus_gf_high)] }
def LocateNeedsSaid : Prop := locateNeedsRow.holds Tryd.pinned (OpenSpec.ofChange locateNeedsSpec)

/-- ITS FALSE NEIGHBOUR: 'it returns false'. Refute it at one input. -/
def locateNeedsWrong : ChangeSpec := { name := "locateNeeds", fn := fun _ => fun
  | [d1, d2, d3, d4] => { results := [.lit (.bool false)], args := [d1, d2, d3, d4] }
  | _ => none }
def LocateNeedsWrongFalsely : Prop := locateNeedsRow.holds Tryd.pinned (OpenSpec.ofChange locateNeedsWrong)

/- THE SECOND FORM. 'bulk': how many values and letters a reading holds, each counted each time it is reached (what is shared counts as often as it is met; a slice's spare places count too). A statement '..UptoSaid' is the law's where the arguments, and the package variables that the reading takes, are together of bulk at most 1048576: NARROWER than '..Said'. Prove '..Said' where nothing that the law and all that it calls make is longer than what came in: it says more and counts as full. Else prove '..UptoSaid'. A law counts once. -/
mutual
def uptoBulk {H : Type} : DataW H → Nat
  | .lit (.string bytes) => bytes.length + 1
  | .lit _ => 1
  | .nil => 1
  | .ptr d => uptoBulk d + 1
  | .slice elems spare => uptoBulkAll elems + uptoBulkAll spare + 1
  | .agg parts => uptoBulkAll parts + 1
  | .iface _ d => uptoBulk d + 1
  | .map entries => uptoBulkEntries entries + 1
  | .held _ => 1
def uptoBulkAll {H : Type} : List (DataW H) → Nat
  | [] => 0
  | d :: r => uptoBulk d + uptoBulkAll r
def uptoBulkEntries {H : Type} : List (Lit × DataW H) → Nat
  | [] => 0
  | x :: r => uptoBulkEntry x + uptoBulkEntries r
def uptoBulkEntry {H : Type} : Lit × DataW H → Nat
  | (.string bytes, d) => bytes.length + uptoBulk d + 1
  | (_, d) => uptoBulk d + 1
 end
def uptoSmall : (H : Type) → List (DataW H) → Bool := fun _ ds => decide (uptoBulkAll ds ≤ 1048576)
def OpenSpec.upto (s : _root_.Go.ChangeSpec) : _root_.Go.OpenSpec := { _root_.Go.OpenSpec.ofChange s with cond := some uptoSmall }

/-- 'quietuslaw09.LocateAsksAsSpecified', WHERE WHAT IT READS IS OF BULK AT MOST 1048576: true; the input reads as it did. -/
def locateAsksAsSpecifiedUptoRow : OpenClaim := { program := "ytggfkpalkdkbdaadoor", sum := "75f6bd2f2c33b3d09ce9911944c85ac3d081363438b80ad69ac86de130fbe662", func := "quietus/quietuslaw09.LocateAsksAsSpecified", spec := "locateAsksAsSpecified", unfollowed := true, recurses := true, named := ["quietus/gf.high"], apart := false, laid := [("quietus/gf.high", laid_quietus_gf_high)], narrowed := true }
def LocateAsksAsSpecifiedUptoSaid : Prop := locateAsksAsSpecifiedUptoRow.holds Tryd.pinned (OpenSpec.upto locateAsksAsSpecifiedSpec)

/-- 'quietuslaw09.LocateFindsAsSpecified', WHERE WHAT IT READS IS OF BULK AT MOST 1048576: true; the input reads as it did. -/
def locateFindsAsSpecifiedUptoRow : OpenClaim := { program := "ytggfkpalkdkbdaadoor", sum := "75f6bd2f2c33b3d09ce9911944c85ac3d081363438b80ad69ac86de130fbe662", func := "quietus/quietuslaw09.LocateFindsAsSpecified", spec := "locateFindsAsSpecified", unfollowed := true, recurses := true, named := ["quietus/gf.high"], apart := false, laid := [("quietus/gf.high", laid_quietus_gf_high)], narrowed := true }
def LocateFindsAsSpecifiedUptoSaid : Prop := locateFindsAsSpecifiedUptoRow.holds Tryd.pinned (OpenSpec.upto locateFindsAsSpecifiedSpec)

/-- 'quietuslaw09.LocateCorrects', WHERE WHAT IT READS IS OF BULK AT MOST 1048576: true; the input reads as it did. -/
def locateCorrectsUptoRow : OpenClaim := { program := "ytggfkpalkdkbdaadoor", sum := "75f6bd2f2c33b3d09ce9911944c85ac3d081363438b80ad69ac86de130fbe662", func := "quietus/quietuslaw09.LocateCorrects", spec := "locateCorrects", unfollowed := true, recurses := true, named := ["quietus/gf.high"], apart := false, laid := [("quietus/gf.high", laid_quietus_gf_high)], narrowed := true }
def LocateCorrectsUptoSaid : Prop := locateCorrectsUptoRow.holds Tryd.pinned (OpenSpec.upto locateCorrectsSpec)

/-- 'quietuslaw09.LocateNotices', WHERE WHAT IT READS IS OF BULK AT MOST 1048576: true; the input reads as it did. -/
def locateNoticesUptoRow : OpenClaim := { program := "ytggfkpalkdkbdaadoor", sum := "75f6bd2f2c33b3d09ce9911944c85ac3d081363438b80ad69ac86de130fbe662", func := "quietus/quietuslaw09.LocateNotices", spec := "locateNotices", unfollowed := true, recurses := true, named := ["quietus/gf.high"], apart := false, laid := [("quietus/gf.high", laid_quietus_gf_high)], narrowed := true }
def LocateNoticesUptoSaid : Prop := locateNoticesUptoRow.holds Tryd.pinned (OpenSpec.upto locateNoticesSpec)

/-- 'quietuslaw09.LocateClashes', WHERE WHAT IT READS IS OF BULK AT MOST 1048576: true; the input reads as it did. -/
def locateClashesUptoRow : OpenClaim := { program := "ytggfkpalkdkbdaadoor", sum := "75f6bd2f2c33b3d09ce9911944c85ac3d081363438b80ad69ac86de130fbe662", func := "quietus/quietuslaw09.LocateClashes", spec := "locateClashes", unfollowed := true, recurses := true, named := ["quietus/gf.high"], apart := false, laid := [("quietus/gf.high", laid_quietus_gf_high)], narrowed := true }
def LocateClashesUptoSaid : Prop := locateClashesUptoRow.holds Tryd.pinned (OpenSpec.upto locateClashesSpec)

/-- 'quietuslaw09.LocateNeeds', WHERE WHAT IT READS IS OF BULK AT MOST 1048576: true; the input reads as it did. -/
def locateNeedsUptoRow : OpenClaim := { program := "ytggfkpalkdkbdaadoor", sum := "75f6bd2f2c33b3d09ce9911944c85ac3d081363438b80ad69ac86de130fbe662", func := "quietus/quietuslaw09.LocateNeeds", spec := "locateNeeds", unfollowed := true, recurses := true, named := ["quietus/gf.high"], apart := false, laid := [("quietus/gf.high", laid_quietus_gf_high)], narrowed := true }
def LocateNeedsUptoSaid : Prop := locateNeedsUptoRow.holds Tryd.pinned (OpenSpec.upto locateNeedsSpec)

end Rows
end Go.Proofs.YtggfkpalkdkbdaaDoor
