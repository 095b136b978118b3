/-
  NARROWER THAN 'FOR EVERY INPUT', by the rows' own cells (each row's printed sentence says how): FnExactMatrixRelation: laid · FnExactDeterminantOf: laid · FnExactRowReduce: laid · FnExactSpanOf: laid · FnExactIsSpace: laid · FnExactRelationFrom: laid · FnExactIsRelation: laid · FnExactSumOf: laid · FnExactKernelOf: laid · FnExactProjectOf: laid · FnExactOrthogonalOf: laid · FnExactMeetOf: laid · FnExactImageOf: laid · FnExactSeparatorOf: laid · FnExactPreimageOf: laid.
  DERIVED. THE GIVEN ROWS OF THIS SEAT. 15 by the template 'for every input the law returns true; each argument reads behind the call as it read before'; 0 by the template 'total and deterministic' (their statements: YtkpheigoegehoaaDoorTotals.lean).
  GIVEN WITH THE SEED: the statements are not yours to turn. If you find one false, say at which input.
  Laid BY PROGRAM, IN A SANDBOX (cutbox-rows.mjs): the forced cells as the released guide's own fill.sh prints them over the translation 0c63256472156993… (all of the seat's roots in one cut). By AI agents, Wed Nov 11 2026. No macro, syntax, notation, axiom, sorry.
-/
import Derived.Test.YtkpheigoegehoaaDoorChecked
import GoSem.Claim
import GoSem.ClaimJoined
import GoSem.ClaimMapViews
import Derived.JoinedTies
import Derived.KernelRfl
namespace Go.Proofs.YtkpheigoegehoaaDoor
/- THE CELL 'sum', in the pinned program and in every row, IS THE sha256 OF THE DUMP (.gsa) THAT YtkpheigoegehoaaDoorProg.lean LOADS. Nothing in Lean hashes anything: it is a label: what it is worth is what the hold of that sum in a sandbox is worth. -/
noncomputable def Tryd.pinned : Pinned := { name := "ytkpheigoegehoaadoor", sum := "0c63256472156993348a8fe7a0297330e4ca079f61651064c83779758606d64b", checked := Tryd.checked }
namespace Rows
def none {H : Type} : Left H := { results := [], args := [] }

/- WHAT THE LISTED PACKAGE-LEVEL VARIABLES READ AS WHEN THE CALL BEGINS. Each datum BY PROGRAM (the guide's laid-datum.mjs) off the statement by which the dump's own 'gosem.cut.vars' lays the variable. In a bare row this is a premise. The card (YtkpheigoegehoaaDoorCards.lean) ties it to the program's text. -/
def laid_loop_example_g01073_impl_smallPrimes {H : Type} : DataW H := .agg [.lit (.int .i64 2), .lit (.int .i64 3), .lit (.int .i64 5), .lit (.int .i64 7)]

/-- 'laws.FnExactMatrixRelation': WHATEVER THE INPUT: true; the input reads as it did. -/
def fnExactMatrixRelationSpec : ChangeSpec := { name := "fnExactMatrixRelation", vars := ["loop.example/g01073/impl.smallPrimes"], fn := fun _ => fun
  | [d1, d2, g1] => { results := [.lit (.bool true)], args := [d1, d2], vars := [g1] }
  | _ => none }
def fnExactMatrixRelationRow : OpenClaim := { program := "ytkpheigoegehoaadoor", sum := "0c63256472156993348a8fe7a0297330e4ca079f61651064c83779758606d64b", func := "loop.example/g01073/laws.FnExactMatrixRelation", spec := "fnExactMatrixRelation", named := ["loop.example/g01073/impl.smallPrimes"], apart := false, laid := [("loop.example/g01073/impl.smallPrimes", laid_loop_example_g01073_impl_smallPrimes)] }
def FnExactMatrixRelationSaid : Prop := fnExactMatrixRelationRow.holds Tryd.pinned (OpenSpec.ofChange fnExactMatrixRelationSpec)

/-- ITS FALSE NEIGHBOUR: 'it returns false'. Refute it at one input. -/
def fnExactMatrixRelationWrong : ChangeSpec := { name := "fnExactMatrixRelation", vars := ["loop.example/g01073/impl.smallPrimes"], fn := fun _ => fun
  | [d1, d2, g1] => { results := [.lit (.bool false)], args := [d1, d2], vars := [g1] }
  | _ => none }
def FnExactMatrixRelationWrongFalsely : Prop := fnExactMatrixRelationRow.holds Tryd.pinned (OpenSpec.ofChange fnExactMatrixRelationWrong)

/-- 'laws.FnExactDeterminantOf': WHATEVER THE INPUT: true; the input reads as it did. -/
def fnExactDeterminantOfSpec : ChangeSpec := { name := "fnExactDeterminantOf", vars := ["loop.example/g01073/impl.smallPrimes"], fn := fun _ => fun
  | [d1, d2, g1] => { results := [.lit (.bool true)], args := [d1, d2], vars := [g1] }
  | _ => none }
def fnExactDeterminantOfRow : OpenClaim := { program := "ytkpheigoegehoaadoor", sum := "0c63256472156993348a8fe7a0297330e4ca079f61651064c83779758606d64b", func := "loop.example/g01073/laws.FnExactDeterminantOf", spec := "fnExactDeterminantOf", named := ["loop.example/g01073/impl.smallPrimes"], apart := false, laid := [("loop.example/g01073/impl.smallPrimes", laid_loop_example_g01073_impl_smallPrimes)] }
def FnExactDeterminantOfSaid : Prop := fnExactDeterminantOfRow.holds Tryd.pinned (OpenSpec.ofChange fnExactDeterminantOfSpec)

/-- ITS FALSE NEIGHBOUR: 'it returns false'. Refute it at one input. -/
def fnExactDeterminantOfWrong : ChangeSpec := { name := "fnExactDeterminantOf", vars := ["loop.example/g01073/impl.smallPrimes"], fn := fun _ => fun
  | [d1, d2, g1] => { results := [.lit (.bool false)], args := [d1, d2], vars := [g1] }
  | _ => none }
def FnExactDeterminantOfWrongFalsely : Prop := fnExactDeterminantOfRow.holds Tryd.pinned (OpenSpec.ofChange fnExactDeterminantOfWrong)

/-- 'laws.FnExactRowReduce': WHATEVER THE INPUT: true; the input reads as it did. -/
def fnExactRowReduceSpec : ChangeSpec := { name := "fnExactRowReduce", vars := ["loop.example/g01073/impl.smallPrimes"], fn := fun _ => fun
  | [d1, d2, g1] => { results := [.lit (.bool true)], args := [d1, d2], vars := [g1] }
  | _ => none }
def fnExactRowReduceRow : OpenClaim := { program := "ytkpheigoegehoaadoor", sum := "0c63256472156993348a8fe7a0297330e4ca079f61651064c83779758606d64b", func := "loop.example/g01073/laws.FnExactRowReduce", spec := "fnExactRowReduce", unfollowed := true, recurses := true, named := ["loop.example/g01073/impl.smallPrimes"], apart := false, laid := [("loop.example/g01073/impl.smallPrimes", laid_loop_example_g01073_impl_smallPrimes)] }
def FnExactRowReduceSaid : Prop := fnExactRowReduceRow.holds Tryd.pinned (OpenSpec.ofChange fnExactRowReduceSpec)

/-- ITS FALSE NEIGHBOUR: 'it returns false'. Refute it at one input. -/
def fnExactRowReduceWrong : ChangeSpec := { name := "fnExactRowReduce", vars := ["loop.example/g01073/impl.smallPrimes"], fn := fun _ => fun
  | [d1, d2, g1] => { results := [.lit (.bool false)], args := [d1, d2], vars := [g1] }
  | _ => none }
def FnExactRowReduceWrongFalsely : Prop := fnExactRowReduceRow.holds Tryd.pinned (OpenSpec.ofChange fnExactRowReduceWrong)

/-- 'laws.FnExactSpanOf': WHATEVER THE INPUT: true; the input reads as it did. -/
def fnExactSpanOfSpec : ChangeSpec := { name := "fnExactSpanOf", vars := ["loop.example/g01073/impl.smallPrimes"], fn := fun _ => fun
  | [d1, d2, d3, g1] => { results := [.lit (.bool true)], args := [d1, d2, d3], vars := [g1] }
  | _ => none }
def fnExactSpanOfRow : OpenClaim := { program := "ytkpheigoegehoaadoor", sum := "0c63256472156993348a8fe7a0297330e4ca079f61651064c83779758606d64b", func := "loop.example/g01073/laws.FnExactSpanOf", spec := "fnExactSpanOf", unfollowed := true, recurses := true, named := ["loop.example/g01073/impl.smallPrimes"], apart := false, laid := [("loop.example/g01073/impl.smallPrimes", laid_loop_example_g01073_impl_smallPrimes)] }
def FnExactSpanOfSaid : Prop := fnExactSpanOfRow.holds Tryd.pinned (OpenSpec.ofChange fnExactSpanOfSpec)

/-- ITS FALSE NEIGHBOUR: 'it returns false'. Refute it at one input. -/
def fnExactSpanOfWrong : ChangeSpec := { name := "fnExactSpanOf", vars := ["loop.example/g01073/impl.smallPrimes"], fn := fun _ => fun
  | [d1, d2, d3, g1] => { results := [.lit (.bool false)], args := [d1, d2, d3], vars := [g1] }
  | _ => none }
def FnExactSpanOfWrongFalsely : Prop := fnExactSpanOfRow.holds Tryd.pinned (OpenSpec.ofChange fnExactSpanOfWrong)

/-- 'laws.FnExactIsSpace': WHATEVER THE INPUT: true; the input reads as it did. -/
def fnExactIsSpaceSpec : ChangeSpec := { name := "fnExactIsSpace", vars := ["loop.example/g01073/impl.smallPrimes"], fn := fun _ => fun
  | [d1, d2, g1] => { results := [.lit (.bool true)], args := [d1, d2], vars := [g1] }
  | _ => none }
def fnExactIsSpaceRow : OpenClaim := { program := "ytkpheigoegehoaadoor", sum := "0c63256472156993348a8fe7a0297330e4ca079f61651064c83779758606d64b", func := "loop.example/g01073/laws.FnExactIsSpace", spec := "fnExactIsSpace", unfollowed := true, recurses := true, named := ["loop.example/g01073/impl.smallPrimes"], apart := false, laid := [("loop.example/g01073/impl.smallPrimes", laid_loop_example_g01073_impl_smallPrimes)] }
def FnExactIsSpaceSaid : Prop := fnExactIsSpaceRow.holds Tryd.pinned (OpenSpec.ofChange fnExactIsSpaceSpec)

/-- ITS FALSE NEIGHBOUR: 'it returns false'. Refute it at one input. -/
def fnExactIsSpaceWrong : ChangeSpec := { name := "fnExactIsSpace", vars := ["loop.example/g01073/impl.smallPrimes"], fn := fun _ => fun
  | [d1, d2, g1] => { results := [.lit (.bool false)], args := [d1, d2], vars := [g1] }
  | _ => none }
def FnExactIsSpaceWrongFalsely : Prop := fnExactIsSpaceRow.holds Tryd.pinned (OpenSpec.ofChange fnExactIsSpaceWrong)

/-- 'laws.FnExactRelationFrom': WHATEVER THE INPUT: true; the input reads as it did. -/
def fnExactRelationFromSpec : ChangeSpec := { name := "fnExactRelationFrom", vars := ["loop.example/g01073/impl.smallPrimes"], fn := fun _ => fun
  | [d1, d2, d3, d4, g1] => { results := [.lit (.bool true)], args := [d1, d2, d3, d4], vars := [g1] }
  | _ => none }
def fnExactRelationFromRow : OpenClaim := { program := "ytkpheigoegehoaadoor", sum := "0c63256472156993348a8fe7a0297330e4ca079f61651064c83779758606d64b", func := "loop.example/g01073/laws.FnExactRelationFrom", spec := "fnExactRelationFrom", unfollowed := true, recurses := true, named := ["loop.example/g01073/impl.smallPrimes"], apart := false, laid := [("loop.example/g01073/impl.smallPrimes", laid_loop_example_g01073_impl_smallPrimes)] }
def FnExactRelationFromSaid : Prop := fnExactRelationFromRow.holds Tryd.pinned (OpenSpec.ofChange fnExactRelationFromSpec)

/-- ITS FALSE NEIGHBOUR: 'it returns false'. Refute it at one input. -/
def fnExactRelationFromWrong : ChangeSpec := { name := "fnExactRelationFrom", vars := ["loop.example/g01073/impl.smallPrimes"], fn := fun _ => fun
  | [d1, d2, d3, d4, g1] => { results := [.lit (.bool false)], args := [d1, d2, d3, d4], vars := [g1] }
  | _ => none }
def FnExactRelationFromWrongFalsely : Prop := fnExactRelationFromRow.holds Tryd.pinned (OpenSpec.ofChange fnExactRelationFromWrong)

/-- 'laws.FnExactIsRelation': WHATEVER THE INPUT: true; the input reads as it did. -/
def fnExactIsRelationSpec : ChangeSpec := { name := "fnExactIsRelation", vars := ["loop.example/g01073/impl.smallPrimes"], fn := fun _ => fun
  | [d1, d2, g1] => { results := [.lit (.bool true)], args := [d1, d2], vars := [g1] }
  | _ => none }
def fnExactIsRelationRow : OpenClaim := { program := "ytkpheigoegehoaadoor", sum := "0c63256472156993348a8fe7a0297330e4ca079f61651064c83779758606d64b", func := "loop.example/g01073/laws.FnExactIsRelation", spec := "fnExactIsRelation", unfollowed := true, recurses := true, named := ["loop.example/g01073/impl.smallPrimes"], apart := false, laid := [("loop.example/g01073/impl.smallPrimes", laid_loop_example_g01073_impl_smallPrimes)] }
def FnExactIsRelationSaid : Prop := fnExactIsRelationRow.holds Tryd.pinned (OpenSpec.ofChange fnExactIsRelationSpec)

/-- ITS FALSE NEIGHBOUR: 'it returns false'. Refute it at one input. -/
def fnExactIsRelationWrong : ChangeSpec := { name := "fnExactIsRelation", vars := ["loop.example/g01073/impl.smallPrimes"], fn := fun _ => fun
  | [d1, d2, g1] => { results := [.lit (.bool false)], args := [d1, d2], vars := [g1] }
  | _ => none }
def FnExactIsRelationWrongFalsely : Prop := fnExactIsRelationRow.holds Tryd.pinned (OpenSpec.ofChange fnExactIsRelationWrong)

/-- 'laws.FnExactSumOf': WHATEVER THE INPUT: true; the input reads as it did. -/
def fnExactSumOfSpec : ChangeSpec := { name := "fnExactSumOf", vars := ["loop.example/g01073/impl.smallPrimes"], fn := fun _ => fun
  | [d1, d2, d3, g1] => { results := [.lit (.bool true)], args := [d1, d2, d3], vars := [g1] }
  | _ => none }
def fnExactSumOfRow : OpenClaim := { program := "ytkpheigoegehoaadoor", sum := "0c63256472156993348a8fe7a0297330e4ca079f61651064c83779758606d64b", func := "loop.example/g01073/laws.FnExactSumOf", spec := "fnExactSumOf", unfollowed := true, recurses := true, named := ["loop.example/g01073/impl.smallPrimes"], apart := false, laid := [("loop.example/g01073/impl.smallPrimes", laid_loop_example_g01073_impl_smallPrimes)] }
def FnExactSumOfSaid : Prop := fnExactSumOfRow.holds Tryd.pinned (OpenSpec.ofChange fnExactSumOfSpec)

/-- ITS FALSE NEIGHBOUR: 'it returns false'. Refute it at one input. -/
def fnExactSumOfWrong : ChangeSpec := { name := "fnExactSumOf", vars := ["loop.example/g01073/impl.smallPrimes"], fn := fun _ => fun
  | [d1, d2, d3, g1] => { results := [.lit (.bool false)], args := [d1, d2, d3], vars := [g1] }
  | _ => none }
def FnExactSumOfWrongFalsely : Prop := fnExactSumOfRow.holds Tryd.pinned (OpenSpec.ofChange fnExactSumOfWrong)

/-- 'laws.FnExactKernelOf': WHATEVER THE INPUT: true; the input reads as it did. -/
def fnExactKernelOfSpec : ChangeSpec := { name := "fnExactKernelOf", vars := ["loop.example/g01073/impl.smallPrimes"], fn := fun _ => fun
  | [d1, d2, g1] => { results := [.lit (.bool true)], args := [d1, d2], vars := [g1] }
  | _ => none }
def fnExactKernelOfRow : OpenClaim := { program := "ytkpheigoegehoaadoor", sum := "0c63256472156993348a8fe7a0297330e4ca079f61651064c83779758606d64b", func := "loop.example/g01073/laws.FnExactKernelOf", spec := "fnExactKernelOf", unfollowed := true, recurses := true, named := ["loop.example/g01073/impl.smallPrimes"], apart := false, laid := [("loop.example/g01073/impl.smallPrimes", laid_loop_example_g01073_impl_smallPrimes)] }
def FnExactKernelOfSaid : Prop := fnExactKernelOfRow.holds Tryd.pinned (OpenSpec.ofChange fnExactKernelOfSpec)

/-- ITS FALSE NEIGHBOUR: 'it returns false'. Refute it at one input. -/
def fnExactKernelOfWrong : ChangeSpec := { name := "fnExactKernelOf", vars := ["loop.example/g01073/impl.smallPrimes"], fn := fun _ => fun
  | [d1, d2, g1] => { results := [.lit (.bool false)], args := [d1, d2], vars := [g1] }
  | _ => none }
def FnExactKernelOfWrongFalsely : Prop := fnExactKernelOfRow.holds Tryd.pinned (OpenSpec.ofChange fnExactKernelOfWrong)

/-- 'laws.FnExactProjectOf': WHATEVER THE INPUT: true; the input reads as it did. -/
def fnExactProjectOfSpec : ChangeSpec := { name := "fnExactProjectOf", vars := ["loop.example/g01073/impl.smallPrimes"], fn := fun _ => fun
  | [d1, d2, d3, g1] => { results := [.lit (.bool true)], args := [d1, d2, d3], vars := [g1] }
  | _ => none }
def fnExactProjectOfRow : OpenClaim := { program := "ytkpheigoegehoaadoor", sum := "0c63256472156993348a8fe7a0297330e4ca079f61651064c83779758606d64b", func := "loop.example/g01073/laws.FnExactProjectOf", spec := "fnExactProjectOf", unfollowed := true, recurses := true, named := ["loop.example/g01073/impl.smallPrimes"], apart := false, laid := [("loop.example/g01073/impl.smallPrimes", laid_loop_example_g01073_impl_smallPrimes)] }
def FnExactProjectOfSaid : Prop := fnExactProjectOfRow.holds Tryd.pinned (OpenSpec.ofChange fnExactProjectOfSpec)

/-- ITS FALSE NEIGHBOUR: 'it returns false'. Refute it at one input. -/
def fnExactProjectOfWrong : ChangeSpec := { name := "fnExactProjectOf", vars := ["loop.example/g01073/impl.smallPrimes"], fn := fun _ => fun
  | [d1, d2, d3, g1] => { results := [.lit (.bool false)], args := [d1, d2, d3], vars := [g1] }
  | _ => none }
def FnExactProjectOfWrongFalsely : Prop := fnExactProjectOfRow.holds Tryd.pinned (OpenSpec.ofChange fnExactProjectOfWrong)

/-- 'laws.FnExactOrthogonalOf': WHATEVER THE INPUT: true; the input reads as it did. -/
def fnExactOrthogonalOfSpec : ChangeSpec := { name := "fnExactOrthogonalOf", vars := ["loop.example/g01073/impl.smallPrimes"], fn := fun _ => fun
  | [d1, d2, g1] => { results := [.lit (.bool true)], args := [d1, d2], vars := [g1] }
  | _ => none }
def fnExactOrthogonalOfRow : OpenClaim := { program := "ytkpheigoegehoaadoor", sum := "0c63256472156993348a8fe7a0297330e4ca079f61651064c83779758606d64b", func := "loop.example/g01073/laws.FnExactOrthogonalOf", spec := "fnExactOrthogonalOf", unfollowed := true, recurses := true, named := ["loop.example/g01073/impl.smallPrimes"], apart := false, laid := [("loop.example/g01073/impl.smallPrimes", laid_loop_example_g01073_impl_smallPrimes)] }
def FnExactOrthogonalOfSaid : Prop := fnExactOrthogonalOfRow.holds Tryd.pinned (OpenSpec.ofChange fnExactOrthogonalOfSpec)

/-- ITS FALSE NEIGHBOUR: 'it returns false'. Refute it at one input. -/
def fnExactOrthogonalOfWrong : ChangeSpec := { name := "fnExactOrthogonalOf", vars := ["loop.example/g01073/impl.smallPrimes"], fn := fun _ => fun
  | [d1, d2, g1] => { results := [.lit (.bool false)], args := [d1, d2], vars := [g1] }
  | _ => none }
def FnExactOrthogonalOfWrongFalsely : Prop := fnExactOrthogonalOfRow.holds Tryd.pinned (OpenSpec.ofChange fnExactOrthogonalOfWrong)

/-- 'laws.FnExactMeetOf': WHATEVER THE INPUT: true; the input reads as it did. -/
def fnExactMeetOfSpec : ChangeSpec := { name := "fnExactMeetOf", vars := ["loop.example/g01073/impl.smallPrimes"], fn := fun _ => fun
  | [d1, d2, d3, g1] => { results := [.lit (.bool true)], args := [d1, d2, d3], vars := [g1] }
  | _ => none }
def fnExactMeetOfRow : OpenClaim := { program := "ytkpheigoegehoaadoor", sum := "0c63256472156993348a8fe7a0297330e4ca079f61651064c83779758606d64b", func := "loop.example/g01073/laws.FnExactMeetOf", spec := "fnExactMeetOf", unfollowed := true, recurses := true, named := ["loop.example/g01073/impl.smallPrimes"], apart := false, laid := [("loop.example/g01073/impl.smallPrimes", laid_loop_example_g01073_impl_smallPrimes)] }
def FnExactMeetOfSaid : Prop := fnExactMeetOfRow.holds Tryd.pinned (OpenSpec.ofChange fnExactMeetOfSpec)

/-- ITS FALSE NEIGHBOUR: 'it returns false'. Refute it at one input. -/
def fnExactMeetOfWrong : ChangeSpec := { name := "fnExactMeetOf", vars := ["loop.example/g01073/impl.smallPrimes"], fn := fun _ => fun
  | [d1, d2, d3, g1] => { results := [.lit (.bool false)], args := [d1, d2, d3], vars := [g1] }
  | _ => none }
def FnExactMeetOfWrongFalsely : Prop := fnExactMeetOfRow.holds Tryd.pinned (OpenSpec.ofChange fnExactMeetOfWrong)

/-- 'laws.FnExactImageOf': WHATEVER THE INPUT: true; the input reads as it did. -/
def fnExactImageOfSpec : ChangeSpec := { name := "fnExactImageOf", vars := ["loop.example/g01073/impl.smallPrimes"], fn := fun _ => fun
  | [d1, d2, d3, g1] => { results := [.lit (.bool true)], args := [d1, d2, d3], vars := [g1] }
  | _ => none }
def fnExactImageOfRow : OpenClaim := { program := "ytkpheigoegehoaadoor", sum := "0c63256472156993348a8fe7a0297330e4ca079f61651064c83779758606d64b", func := "loop.example/g01073/laws.FnExactImageOf", spec := "fnExactImageOf", unfollowed := true, recurses := true, named := ["loop.example/g01073/impl.smallPrimes"], apart := false, laid := [("loop.example/g01073/impl.smallPrimes", laid_loop_example_g01073_impl_smallPrimes)] }
def FnExactImageOfSaid : Prop := fnExactImageOfRow.holds Tryd.pinned (OpenSpec.ofChange fnExactImageOfSpec)

/-- ITS FALSE NEIGHBOUR: 'it returns false'. Refute it at one input. -/
def fnExactImageOfWrong : ChangeSpec := { name := "fnExactImageOf", vars := ["loop.example/g01073/impl.smallPrimes"], fn := fun _ => fun
  | [d1, d2, d3, g1] => { results := [.lit (.bool false)], args := [d1, d2, d3], vars := [g1] }
  | _ => none }
def FnExactImageOfWrongFalsely : Prop := fnExactImageOfRow.holds Tryd.pinned (OpenSpec.ofChange fnExactImageOfWrong)

/-- 'laws.FnExactSeparatorOf': WHATEVER THE INPUT: true; the input reads as it did. -/
def fnExactSeparatorOfSpec : ChangeSpec := { name := "fnExactSeparatorOf", vars := ["loop.example/g01073/impl.smallPrimes"], fn := fun _ => fun
  | [d1, d2, d3, g1] => { results := [.lit (.bool true)], args := [d1, d2, d3], vars := [g1] }
  | _ => none }
def fnExactSeparatorOfRow : OpenClaim := { program := "ytkpheigoegehoaadoor", sum := "0c63256472156993348a8fe7a0297330e4ca079f61651064c83779758606d64b", func := "loop.example/g01073/laws.FnExactSeparatorOf", spec := "fnExactSeparatorOf", unfollowed := true, recurses := true, named := ["loop.example/g01073/impl.smallPrimes"], apart := false, laid := [("loop.example/g01073/impl.smallPrimes", laid_loop_example_g01073_impl_smallPrimes)] }
def FnExactSeparatorOfSaid : Prop := fnExactSeparatorOfRow.holds Tryd.pinned (OpenSpec.ofChange fnExactSeparatorOfSpec)

/-- ITS FALSE NEIGHBOUR: 'it returns false'. Refute it at one input. -/
def fnExactSeparatorOfWrong : ChangeSpec := { name := "fnExactSeparatorOf", vars := ["loop.example/g01073/impl.smallPrimes"], fn := fun _ => fun
  | [d1, d2, d3, g1] => { results := [.lit (.bool false)], args := [d1, d2, d3], vars := [g1] }
  | _ => none }
def FnExactSeparatorOfWrongFalsely : Prop := fnExactSeparatorOfRow.holds Tryd.pinned (OpenSpec.ofChange fnExactSeparatorOfWrong)

/-- 'laws.FnExactPreimageOf': WHATEVER THE INPUT: true; the input reads as it did. -/
def fnExactPreimageOfSpec : ChangeSpec := { name := "fnExactPreimageOf", vars := ["loop.example/g01073/impl.smallPrimes"], fn := fun _ => fun
  | [d1, d2, d3, g1] => { results := [.lit (.bool true)], args := [d1, d2, d3], vars := [g1] }
  | _ => none }
def fnExactPreimageOfRow : OpenClaim := { program := "ytkpheigoegehoaadoor", sum := "0c63256472156993348a8fe7a0297330e4ca079f61651064c83779758606d64b", func := "loop.example/g01073/laws.FnExactPreimageOf", spec := "fnExactPreimageOf", unfollowed := true, recurses := true, named := ["loop.example/g01073/impl.smallPrimes"], apart := false, laid := [("loop.example/g01073/impl.smallPrimes", laid_loop_example_g01073_impl_smallPrimes)] }
def FnExactPreimageOfSaid : Prop := fnExactPreimageOfRow.holds Tryd.pinned (OpenSpec.ofChange fnExactPreimageOfSpec)

/-- ITS FALSE NEIGHBOUR: 'it returns false'. Refute it at one input. -/
def fnExactPreimageOfWrong : ChangeSpec := { name := "fnExactPreimageOf", vars := ["loop.example/g01073/impl.smallPrimes"], fn := fun _ => fun
  | [d1, d2, d3, g1] => { results := [.lit (.bool false)], args := [d1, d2, d3], vars := [g1] }
  | _ => none }
def FnExactPreimageOfWrongFalsely : Prop := fnExactPreimageOfRow.holds Tryd.pinned (OpenSpec.ofChange fnExactPreimageOfWrong)

/- THE SECOND FORM. 'bulk': how many values and letters a reading holds, each counted each time it is reached (what is shared counts as often as it is met; a slice's spare places count too). A statement '..UptoSaid' is the law's where the arguments, and the package variables that the reading takes, are together of bulk at most 1048576: NARROWER than '..Said'. Prove '..Said' where nothing that the law and all that it calls make is longer than what came in: it says more and counts as full. Else prove '..UptoSaid'. A law counts once. -/
mutual
def uptoBulk {H : Type} : DataW H → Nat
  | .lit (.string bytes) => bytes.length + 1
  | .lit _ => 1
  | .nil => 1
  | .ptr d => uptoBulk d + 1
  | .slice elems spare => uptoBulkAll elems + uptoBulkAll spare + 1
  | .agg parts => uptoBulkAll parts + 1
  | .iface _ d => uptoBulk d + 1
  | .map entries => uptoBulkEntries entries + 1
  | .held _ => 1
def uptoBulkAll {H : Type} : List (DataW H) → Nat
  | [] => 0
  | d :: r => uptoBulk d + uptoBulkAll r
def uptoBulkEntries {H : Type} : List (Lit × DataW H) → Nat
  | [] => 0
  | x :: r => uptoBulkEntry x + uptoBulkEntries r
def uptoBulkEntry {H : Type} : Lit × DataW H → Nat
  | (.string bytes, d) => bytes.length + uptoBulk d + 1
  | (_, d) => uptoBulk d + 1
 end
def uptoSmall : (H : Type) → List (DataW H) → Bool := fun _ ds => decide (uptoBulkAll ds ≤ 1048576)
def OpenSpec.upto (s : _root_.Go.ChangeSpec) : _root_.Go.OpenSpec := { _root_.Go.OpenSpec.ofChange s with cond := some uptoSmall }

/-- 'laws.FnExactMatrixRelation', WHERE WHAT IT READS IS OF BULK AT MOST 1048576: true; the input reads as it did. -/
def fnExactMatrixRelationUptoRow : OpenClaim := { program := "ytkpheigoegehoaadoor", sum := "0c63256472156993348a8fe7a0297330e4ca079f61651064c83779758606d64b", func := "loop.example/g01073/laws.FnExactMatrixRelation", spec := "fnExactMatrixRelation", named := ["loop.example/g01073/impl.smallPrimes"], apart := false, laid := [("loop.example/g01073/impl.smallPrimes", laid_loop_example_g01073_impl_smallPrimes)], narrowed := true }
def FnExactMatrixRelationUptoSaid : Prop := fnExactMatrixRelationUptoRow.holds Tryd.pinned (OpenSpec.upto fnExactMatrixRelationSpec)

/-- 'laws.FnExactDeterminantOf', WHERE WHAT IT READS IS OF BULK AT MOST 1048576: true; the input reads as it did. -/
def fnExactDeterminantOfUptoRow : OpenClaim := { program := "ytkpheigoegehoaadoor", sum := "0c63256472156993348a8fe7a0297330e4ca079f61651064c83779758606d64b", func := "loop.example/g01073/laws.FnExactDeterminantOf", spec := "fnExactDeterminantOf", named := ["loop.example/g01073/impl.smallPrimes"], apart := false, laid := [("loop.example/g01073/impl.smallPrimes", laid_loop_example_g01073_impl_smallPrimes)], narrowed := true }
def FnExactDeterminantOfUptoSaid : Prop := fnExactDeterminantOfUptoRow.holds Tryd.pinned (OpenSpec.upto fnExactDeterminantOfSpec)

/-- 'laws.FnExactRowReduce', WHERE WHAT IT READS IS OF BULK AT MOST 1048576: true; the input reads as it did. -/
def fnExactRowReduceUptoRow : OpenClaim := { program := "ytkpheigoegehoaadoor", sum := "0c63256472156993348a8fe7a0297330e4ca079f61651064c83779758606d64b", func := "loop.example/g01073/laws.FnExactRowReduce", spec := "fnExactRowReduce", unfollowed := true, recurses := true, named := ["loop.example/g01073/impl.smallPrimes"], apart := false, laid := [("loop.example/g01073/impl.smallPrimes", laid_loop_example_g01073_impl_smallPrimes)], narrowed := true }
def FnExactRowReduceUptoSaid : Prop := fnExactRowReduceUptoRow.holds Tryd.pinned (OpenSpec.upto fnExactRowReduceSpec)

/-- 'laws.FnExactSpanOf', WHERE WHAT IT READS IS OF BULK AT MOST 1048576: true; the input reads as it did. -/
def fnExactSpanOfUptoRow : OpenClaim := { program := "ytkpheigoegehoaadoor", sum := "0c63256472156993348a8fe7a0297330e4ca079f61651064c83779758606d64b", func := "loop.example/g01073/laws.FnExactSpanOf", spec := "fnExactSpanOf", unfollowed := true, recurses := true, named := ["loop.example/g01073/impl.smallPrimes"], apart := false, laid := [("loop.example/g01073/impl.smallPrimes", laid_loop_example_g01073_impl_smallPrimes)], narrowed := true }
def FnExactSpanOfUptoSaid : Prop := fnExactSpanOfUptoRow.holds Tryd.pinned (OpenSpec.upto fnExactSpanOfSpec)

/-- 'laws.FnExactIsSpace', WHERE WHAT IT READS IS OF BULK AT MOST 1048576: true; the input reads as it did. -/
def fnExactIsSpaceUptoRow : OpenClaim := { program := "ytkpheigoegehoaadoor", sum := "0c63256472156993348a8fe7a0297330e4ca079f61651064c83779758606d64b", func := "loop.example/g01073/laws.FnExactIsSpace", spec := "fnExactIsSpace", unfollowed := true, recurses := true, named := ["loop.example/g01073/impl.smallPrimes"], apart := false, laid := [("loop.example/g01073/impl.smallPrimes", laid_loop_example_g01073_impl_smallPrimes)], narrowed := true }
def FnExactIsSpaceUptoSaid : Prop := fnExactIsSpaceUptoRow.holds Tryd.pinned (OpenSpec.upto fnExactIsSpaceSpec)

/-- 'laws.FnExactRelationFrom', WHERE WHAT IT READS IS OF BULK AT MOST 1048576: true; the input reads as it did. -/
def fnExactRelationFromUptoRow : OpenClaim := { program := "ytkpheigoegehoaadoor", sum := "0c63256472156993348a8fe7a0297330e4ca079f61651064c83779758606d64b", func := "loop.example/g01073/laws.FnExactRelationFrom", spec := "fnExactRelationFrom", unfollowed := true, recurses := true, named := ["loop.example/g01073/impl.smallPrimes"], apart := false, laid := [("loop.example/g01073/impl.smallPrimes", laid_loop_example_g01073_impl_smallPrimes)], narrowed := true }
def FnExactRelationFromUptoSaid : Prop := fnExactRelationFromUptoRow.holds Tryd.pinned (OpenSpec.upto fnExactRelationFromSpec)

/-- 'laws.FnExactIsRelation', WHERE WHAT IT READS IS OF BULK AT MOST 1048576: true; the input reads as it did. -/
def fnExactIsRelationUptoRow : OpenClaim := { program := "ytkpheigoegehoaadoor", sum := "0c63256472156993348a8fe7a0297330e4ca079f61651064c83779758606d64b", func := "loop.example/g01073/laws.FnExactIsRelation", spec := "fnExactIsRelation", unfollowed := true, recurses := true, named := ["loop.example/g01073/impl.smallPrimes"], apart := false, laid := [("loop.example/g01073/impl.smallPrimes", laid_loop_example_g01073_impl_smallPrimes)], narrowed := true }
def FnExactIsRelationUptoSaid : Prop := fnExactIsRelationUptoRow.holds Tryd.pinned (OpenSpec.upto fnExactIsRelationSpec)

/-- 'laws.FnExactSumOf', WHERE WHAT IT READS IS OF BULK AT MOST 1048576: true; the input reads as it did. -/
def fnExactSumOfUptoRow : OpenClaim := { program := "ytkpheigoegehoaadoor", sum := "0c63256472156993348a8fe7a0297330e4ca079f61651064c83779758606d64b", func := "loop.example/g01073/laws.FnExactSumOf", spec := "fnExactSumOf", unfollowed := true, recurses := true, named := ["loop.example/g01073/impl.smallPrimes"], apart := false, laid := [("loop.example/g01073/impl.smallPrimes", laid_loop_example_g01073_impl_smallPrimes)], narrowed := true }
def FnExactSumOfUptoSaid : Prop := fnExactSumOfUptoRow.holds Tryd.pinned (OpenSpec.upto fnExactSumOfSpec)

/-- 'laws.FnExactKernelOf', WHERE WHAT IT READS IS OF BULK AT MOST 1048576: true; the input reads as it did. -/
def fnExactKernelOfUptoRow : OpenClaim := { program := "ytkpheigoegehoaadoor", sum := "0c63256472156993348a8fe7a0297330e4ca079f61651064c83779758606d64b", func := "loop.example/g01073/laws.FnExactKernelOf", spec := "fnExactKernelOf", unfollowed := true, recurses := true, named := ["loop.example/g01073/impl.smallPrimes"], apart := false, laid := [("loop.example/g01073/impl.smallPrimes", laid_loop_example_g01073_impl_smallPrimes)], narrowed := true }
def FnExactKernelOfUptoSaid : Prop := fnExactKernelOfUptoRow.holds Tryd.pinned (OpenSpec.upto fnExactKernelOfSpec)

/-- 'laws.FnExactProjectOf', WHERE WHAT IT READS IS OF BULK AT MOST 1048576: true; the input reads as it did. -/
def fnExactProjectOfUptoRow : OpenClaim := { program := "ytkpheigoegehoaadoor", sum := "0c63256472156993348a8fe7a0297330e4ca079f61651064c83779758606d64b", func := "loop.example/g01073/laws.FnExactProjectOf", spec := "fnExactProjectOf", unfollowed := true, recurses := true, named := ["loop.example/g01073/impl.smallPrimes"], apart := false, laid := [("loop.example/g01073/impl.smallPrimes", laid_loop_example_g01073_impl_smallPrimes)], narrowed := true }
def FnExactProjectOfUptoSaid : Prop := fnExactProjectOfUptoRow.holds Tryd.pinned (OpenSpec.upto fnExactProjectOfSpec)

/-- 'laws.FnExactOrthogonalOf', WHERE WHAT IT READS IS OF BULK AT MOST 1048576: true; the input reads as it did. -/
def fnExactOrthogonalOfUptoRow : OpenClaim := { program := "ytkpheigoegehoaadoor", sum := "0c63256472156993348a8fe7a0297330e4ca079f61651064c83779758606d64b", func := "loop.example/g01073/laws.FnExactOrthogonalOf", spec := "fnExactOrthogonalOf", unfollowed := true, recurses := true, named := ["loop.example/g01073/impl.smallPrimes"], apart := false, laid := [("loop.example/g01073/impl.smallPrimes", laid_loop_example_g01073_impl_smallPrimes)], narrowed := true }
def FnExactOrthogonalOfUptoSaid : Prop := fnExactOrthogonalOfUptoRow.holds Tryd.pinned (OpenSpec.upto fnExactOrthogonalOfSpec)

/-- 'laws.FnExactMeetOf', WHERE WHAT IT READS IS OF BULK AT MOST 1048576: true; the input reads as it did. -/
def fnExactMeetOfUptoRow : OpenClaim := { program := "ytkpheigoegehoaadoor", sum := "0c63256472156993348a8fe7a0297330e4ca079f61651064c83779758606d64b", func := "loop.example/g01073/laws.FnExactMeetOf", spec := "fnExactMeetOf", unfollowed := true, recurses := true, named := ["loop.example/g01073/impl.smallPrimes"], apart := false, laid := [("loop.example/g01073/impl.smallPrimes", laid_loop_example_g01073_impl_smallPrimes)], narrowed := true }
def FnExactMeetOfUptoSaid : Prop := fnExactMeetOfUptoRow.holds Tryd.pinned (OpenSpec.upto fnExactMeetOfSpec)

/-- 'laws.FnExactImageOf', WHERE WHAT IT READS IS OF BULK AT MOST 1048576: true; the input reads as it did. -/
def fnExactImageOfUptoRow : OpenClaim := { program := "ytkpheigoegehoaadoor", sum := "0c63256472156993348a8fe7a0297330e4ca079f61651064c83779758606d64b", func := "loop.example/g01073/laws.FnExactImageOf", spec := "fnExactImageOf", unfollowed := true, recurses := true, named := ["loop.example/g01073/impl.smallPrimes"], apart := false, laid := [("loop.example/g01073/impl.smallPrimes", laid_loop_example_g01073_impl_smallPrimes)], narrowed := true }
def FnExactImageOfUptoSaid : Prop := fnExactImageOfUptoRow.holds Tryd.pinned (OpenSpec.upto fnExactImageOfSpec)

/-- 'laws.FnExactSeparatorOf', WHERE WHAT IT READS IS OF BULK AT MOST 1048576: true; the input reads as it did. -/
def fnExactSeparatorOfUptoRow : OpenClaim := { program := "ytkpheigoegehoaadoor", sum := "0c63256472156993348a8fe7a0297330e4ca079f61651064c83779758606d64b", func := "loop.example/g01073/laws.FnExactSeparatorOf", spec := "fnExactSeparatorOf", unfollowed := true, recurses := true, named := ["loop.example/g01073/impl.smallPrimes"], apart := false, laid := [("loop.example/g01073/impl.smallPrimes", laid_loop_example_g01073_impl_smallPrimes)], narrowed := true }
def FnExactSeparatorOfUptoSaid : Prop := fnExactSeparatorOfUptoRow.holds Tryd.pinned (OpenSpec.upto fnExactSeparatorOfSpec)

/-- 'laws.FnExactPreimageOf', WHERE WHAT IT READS IS OF BULK AT MOST 1048576: true; the input reads as it did. -/
def fnExactPreimageOfUptoRow : OpenClaim := { program := "ytkpheigoegehoaadoor", sum := "0c63256472156993348a8fe7a0297330e4ca079f61651064c83779758606d64b", func := "loop.example/g01073/laws.FnExactPreimageOf", spec := "fnExactPreimageOf", unfollowed := true, recurses := true, named := ["loop.example/g01073/impl.smallPrimes"], apart := false, laid := [("loop.example/g01073/impl.smallPrimes", laid_loop_example_g01073_impl_smallPrimes)], narrowed := true }
def FnExactPreimageOfUptoSaid : Prop := fnExactPreimageOfUptoRow.holds Tryd.pinned (OpenSpec.upto fnExactPreimageOfSpec)

end Rows
end Go.Proofs.YtkpheigoegehoaaDoor
