/-
  NARROWER THAN 'FOR EVERY INPUT', by the rows' own cells (each row's printed sentence says how): FnExactMatrixRelation: laid · FnExactRowReduce: laid · FnExactProjectOf: laid · FnExactSeparatorOf: laid · FnExactIsGraph: laid.
  DERIVED. THE GIVEN ROWS OF THIS SEAT. 5 by the template 'for every input the law returns true; each argument reads behind the call as it read before'; 0 by the template 'total and deterministic' (their statements: YtimjlcnljefbbaaDoorTotals.lean).
  GIVEN WITH THE SEED: the statements are not yours to turn. If you find one false, say at which input.
  Laid BY PROGRAM, IN A SANDBOX (cutbox-rows.mjs): the forced cells as the released guide's own fill.sh prints them over the translation 794a2c8f05ebfd0d… (all of the seat's roots in one cut). By AI agents, Wed Nov 11 2026. No macro, syntax, notation, axiom, sorry.
-/
import Derived.Test.YtimjlcnljefbbaaDoorChecked
import GoSem.Claim
import GoSem.ClaimJoined
import GoSem.ClaimMapViews
import Derived.JoinedTies
import Derived.KernelRfl
namespace Go.Proofs.YtimjlcnljefbbaaDoor
/- THE CELL 'sum', in the pinned program and in every row, IS THE sha256 OF THE DUMP (.gsa) THAT YtimjlcnljefbbaaDoorProg.lean LOADS. Nothing in Lean hashes anything: it is a label: what it is worth is what the hold of that sum in a sandbox is worth. -/
noncomputable def Tryd.pinned : Pinned := { name := "ytimjlcnljefbbaadoor", sum := "794a2c8f05ebfd0d08ddb05ded0b7934b2138327dacacbfa021fe8b3487c36d2", checked := Tryd.checked }
namespace Rows
def none {H : Type} : Left H := { results := [], args := [] }

/- WHAT THE LISTED PACKAGE-LEVEL VARIABLES READ AS WHEN THE CALL BEGINS. Each datum BY PROGRAM (the guide's laid-datum.mjs) off the statement by which the dump's own 'gosem.cut.vars' lays the variable. In a bare row this is a premise. The card (YtimjlcnljefbbaaDoorCards.lean) ties it to the program's text. -/
def laid_loop_example_g01073_impl_smallPrimes {H : Type} : DataW H := .agg [.lit (.int .i64 2), .lit (.int .i64 3), .lit (.int .i64 5), .lit (.int .i64 7)]

/-- 'laws.FnExactMatrixRelation': WHATEVER THE INPUT: true; the input reads as it did. -/
def fnExactMatrixRelationSpec : ChangeSpec := { name := "fnExactMatrixRelation", vars := ["loop.example/g01073/impl.smallPrimes"], fn := fun _ => fun
  | [d1, d2, g1] => { results := [.lit (.bool true)], args := [d1, d2], vars := [g1] }
  | _ => none }
def fnExactMatrixRelationRow : OpenClaim := { program := "ytimjlcnljefbbaadoor", sum := "794a2c8f05ebfd0d08ddb05ded0b7934b2138327dacacbfa021fe8b3487c36d2", func := "loop.example/g01073/laws.FnExactMatrixRelation", spec := "fnExactMatrixRelation", named := ["loop.example/g01073/impl.smallPrimes"], apart := false, laid := [("loop.example/g01073/impl.smallPrimes", laid_loop_example_g01073_impl_smallPrimes)] }
def FnExactMatrixRelationSaid : Prop := fnExactMatrixRelationRow.holds Tryd.pinned (OpenSpec.ofChange fnExactMatrixRelationSpec)

/-- ITS FALSE NEIGHBOUR: 'it returns false'. Refute it at one input. -/
def fnExactMatrixRelationWrong : ChangeSpec := { name := "fnExactMatrixRelation", vars := ["loop.example/g01073/impl.smallPrimes"], fn := fun _ => fun
  | [d1, d2, g1] => { results := [.lit (.bool false)], args := [d1, d2], vars := [g1] }
  | _ => none }
def FnExactMatrixRelationWrongFalsely : Prop := fnExactMatrixRelationRow.holds Tryd.pinned (OpenSpec.ofChange fnExactMatrixRelationWrong)

/-- 'laws.FnExactRowReduce': WHATEVER THE INPUT: true; the input reads as it did. -/
def fnExactRowReduceSpec : ChangeSpec := { name := "fnExactRowReduce", vars := ["loop.example/g01073/impl.smallPrimes"], fn := fun _ => fun
  | [d1, d2, g1] => { results := [.lit (.bool true)], args := [d1, d2], vars := [g1] }
  | _ => none }
def fnExactRowReduceRow : OpenClaim := { program := "ytimjlcnljefbbaadoor", sum := "794a2c8f05ebfd0d08ddb05ded0b7934b2138327dacacbfa021fe8b3487c36d2", func := "loop.example/g01073/laws.FnExactRowReduce", spec := "fnExactRowReduce", unfollowed := true, recurses := true, named := ["loop.example/g01073/impl.smallPrimes"], apart := false, laid := [("loop.example/g01073/impl.smallPrimes", laid_loop_example_g01073_impl_smallPrimes)] }
def FnExactRowReduceSaid : Prop := fnExactRowReduceRow.holds Tryd.pinned (OpenSpec.ofChange fnExactRowReduceSpec)

/-- ITS FALSE NEIGHBOUR: 'it returns false'. Refute it at one input. -/
def fnExactRowReduceWrong : ChangeSpec := { name := "fnExactRowReduce", vars := ["loop.example/g01073/impl.smallPrimes"], fn := fun _ => fun
  | [d1, d2, g1] => { results := [.lit (.bool false)], args := [d1, d2], vars := [g1] }
  | _ => none }
def FnExactRowReduceWrongFalsely : Prop := fnExactRowReduceRow.holds Tryd.pinned (OpenSpec.ofChange fnExactRowReduceWrong)

/-- 'laws.FnExactProjectOf': WHATEVER THE INPUT: true; the input reads as it did. -/
def fnExactProjectOfSpec : ChangeSpec := { name := "fnExactProjectOf", vars := ["loop.example/g01073/impl.smallPrimes"], fn := fun _ => fun
  | [d1, d2, d3, g1] => { results := [.lit (.bool true)], args := [d1, d2, d3], vars := [g1] }
  | _ => none }
def fnExactProjectOfRow : OpenClaim := { program := "ytimjlcnljefbbaadoor", sum := "794a2c8f05ebfd0d08ddb05ded0b7934b2138327dacacbfa021fe8b3487c36d2", func := "loop.example/g01073/laws.FnExactProjectOf", spec := "fnExactProjectOf", unfollowed := true, recurses := true, named := ["loop.example/g01073/impl.smallPrimes"], apart := false, laid := [("loop.example/g01073/impl.smallPrimes", laid_loop_example_g01073_impl_smallPrimes)] }
def FnExactProjectOfSaid : Prop := fnExactProjectOfRow.holds Tryd.pinned (OpenSpec.ofChange fnExactProjectOfSpec)

/-- ITS FALSE NEIGHBOUR: 'it returns false'. Refute it at one input. -/
def fnExactProjectOfWrong : ChangeSpec := { name := "fnExactProjectOf", vars := ["loop.example/g01073/impl.smallPrimes"], fn := fun _ => fun
  | [d1, d2, d3, g1] => { results := [.lit (.bool false)], args := [d1, d2, d3], vars := [g1] }
  | _ => none }
def FnExactProjectOfWrongFalsely : Prop := fnExactProjectOfRow.holds Tryd.pinned (OpenSpec.ofChange fnExactProjectOfWrong)

/-- 'laws.FnExactSeparatorOf': WHATEVER THE INPUT: true; the input reads as it did. -/
def fnExactSeparatorOfSpec : ChangeSpec := { name := "fnExactSeparatorOf", vars := ["loop.example/g01073/impl.smallPrimes"], fn := fun _ => fun
  | [d1, d2, d3, g1] => { results := [.lit (.bool true)], args := [d1, d2, d3], vars := [g1] }
  | _ => none }
def fnExactSeparatorOfRow : OpenClaim := { program := "ytimjlcnljefbbaadoor", sum := "794a2c8f05ebfd0d08ddb05ded0b7934b2138327dacacbfa021fe8b3487c36d2", func := "loop.example/g01073/laws.FnExactSeparatorOf", spec := "fnExactSeparatorOf", unfollowed := true, recurses := true, named := ["loop.example/g01073/impl.smallPrimes"], apart := false, laid := [("loop.example/g01073/impl.smallPrimes", laid_loop_example_g01073_impl_smallPrimes)] }
def FnExactSeparatorOfSaid : Prop := fnExactSeparatorOfRow.holds Tryd.pinned (OpenSpec.ofChange fnExactSeparatorOfSpec)

/-- ITS FALSE NEIGHBOUR: 'it returns false'. Refute it at one input. -/
def fnExactSeparatorOfWrong : ChangeSpec := { name := "fnExactSeparatorOf", vars := ["loop.example/g01073/impl.smallPrimes"], fn := fun _ => fun
  | [d1, d2, d3, g1] => { results := [.lit (.bool false)], args := [d1, d2, d3], vars := [g1] }
  | _ => none }
def FnExactSeparatorOfWrongFalsely : Prop := fnExactSeparatorOfRow.holds Tryd.pinned (OpenSpec.ofChange fnExactSeparatorOfWrong)

/-- 'laws.FnExactIsGraph': WHATEVER THE INPUT: true; the input reads as it did. -/
def fnExactIsGraphSpec : ChangeSpec := { name := "fnExactIsGraph", vars := ["loop.example/g01073/impl.smallPrimes"], fn := fun _ => fun
  | [d1, d2, g1] => { results := [.lit (.bool true)], args := [d1, d2], vars := [g1] }
  | _ => none }
def fnExactIsGraphRow : OpenClaim := { program := "ytimjlcnljefbbaadoor", sum := "794a2c8f05ebfd0d08ddb05ded0b7934b2138327dacacbfa021fe8b3487c36d2", func := "loop.example/g01073/laws.FnExactIsGraph", spec := "fnExactIsGraph", unfollowed := true, recurses := true, named := ["loop.example/g01073/impl.smallPrimes"], apart := false, laid := [("loop.example/g01073/impl.smallPrimes", laid_loop_example_g01073_impl_smallPrimes)] }
def FnExactIsGraphSaid : Prop := fnExactIsGraphRow.holds Tryd.pinned (OpenSpec.ofChange fnExactIsGraphSpec)

/-- ITS FALSE NEIGHBOUR: 'it returns false'. Refute it at one input. -/
def fnExactIsGraphWrong : ChangeSpec := { name := "fnExactIsGraph", vars := ["loop.example/g01073/impl.smallPrimes"], fn := fun _ => fun
  | [d1, d2, g1] => { results := [.lit (.bool false)], args := [d1, d2], vars := [g1] }
  | _ => none }
def FnExactIsGraphWrongFalsely : Prop := fnExactIsGraphRow.holds Tryd.pinned (OpenSpec.ofChange fnExactIsGraphWrong)

/- THE SECOND FORM. 'bulk': how many values and letters a reading holds, each counted each time it is reached (what is shared counts as often as it is met; a slice's spare places count too). A statement '..UptoSaid' is the law's where the arguments, and the package variables that the reading takes, are together of bulk at most 1048576: NARROWER than '..Said'. Prove '..Said' where nothing that the law and all that it calls make is longer than what came in: it says more and counts as full. Else prove '..UptoSaid'. A law counts once. -/
mutual
def uptoBulk {H : Type} : DataW H → Nat
  | .lit (.string bytes) => bytes.length + 1
  | .lit _ => 1
  | .nil => 1
  | .ptr d => uptoBulk d + 1
  | .slice elems spare => uptoBulkAll elems + uptoBulkAll spare + 1
  | .agg parts => uptoBulkAll parts + 1
  | .iface _ d => uptoBulk d + 1
  | .map entries => uptoBulkEntries entries + 1
  | .held _ => 1
def uptoBulkAll {H : Type} : List (DataW H) → Nat
  | [] => 0
  | d :: r => uptoBulk d + uptoBulkAll r
def uptoBulkEntries {H : Type} : List (Lit × DataW H) → Nat
  | [] => 0
  | x :: r => uptoBulkEntry x + uptoBulkEntries r
def uptoBulkEntry {H : Type} : Lit × DataW H → Nat
  | (.string bytes, d) => bytes.length + uptoBulk d + 1
  | (_, d) => uptoBulk d + 1
 end
def uptoSmall : (H : Type) → List (DataW H) → Bool := fun _ ds => decide (uptoBulkAll ds ≤ 1048576)
def OpenSpec.upto (s : _root_.Go.ChangeSpec) : _root_.Go.OpenSpec := { _root_.Go.OpenSpec.ofChange s with cond := some uptoSmall }

/-- 'laws.FnExactMatrixRelation', WHERE WHAT IT READS IS OF BULK AT MOST 1048576: true; the input reads as it did. -/
def fnExactMatrixRelationUptoRow : OpenClaim := { program := "ytimjlcnljefbbaadoor", sum := "794a2c8f05ebfd0d08ddb05ded0b7934b2138327dacacbfa021fe8b3487c36d2", func := "loop.example/g01073/laws.FnExactMatrixRelation", spec := "fnExactMatrixRelation", named := ["loop.example/g01073/impl.smallPrimes"], apart := false, laid := [("loop.example/g01073/impl.smallPrimes", laid_loop_example_g01073_impl_smallPrimes)], narrowed := true }
def FnExactMatrixRelationUptoSaid : Prop := fnExactMatrixRelationUptoRow.holds Tryd.pinned (OpenSpec.upto fnExactMatrixRelationSpec)

/-- 'laws.FnExactRowReduce', WHERE WHAT IT READS IS OF BULK AT MOST 1048576: true; the input reads as it did. -/
def fnExactRowReduceUptoRow : OpenClaim := { program := "ytimjlcnljefbbaadoor", sum := "794a2c8f05ebfd0d08ddb05ded0b7934b2138327dacacbfa021fe8b3487c36d2", func := "loop.example/g01073/laws.FnExactRowReduce", spec := "fnExactRowReduce", unfollowed := true, recurses := true, named := ["loop.example/g01073/impl.smallPrimes"], apart := false, laid := [("loop.example/g01073/impl.smallPrimes", laid_loop_example_g01073_impl_smallPrimes)], narrowed := true }
def FnExactRowReduceUptoSaid : Prop := fnExactRowReduceUptoRow.holds Tryd.pinned (OpenSpec.upto fnExactRowReduceSpec)

/-- 'laws.FnExactProjectOf', WHERE WHAT IT READS IS OF BULK AT MOST 1048576: true; the input reads as it did. -/
def fnExactProjectOfUptoRow : OpenClaim := { program := "ytimjlcnljefbbaadoor", sum := "794a2c8f05ebfd0d08ddb05ded0b7934b2138327dacacbfa021fe8b3487c36d2", func := "loop.example/g01073/laws.FnExactProjectOf", spec := "fnExactProjectOf", unfollowed := true, recurses := true, named := ["loop.example/g01073/impl.smallPrimes"], apart := false, laid := [("loop.example/g01073/impl.smallPrimes", laid_loop_example_g01073_impl_smallPrimes)], narrowed := true }
def FnExactProjectOfUptoSaid : Prop := fnExactProjectOfUptoRow.holds Tryd.pinned (OpenSpec.upto fnExactProjectOfSpec)

/-- 'laws.FnExactSeparatorOf', WHERE WHAT IT READS IS OF BULK AT MOST 1048576: true; the input reads as it did. -/
def fnExactSeparatorOfUptoRow : OpenClaim := { program := "ytimjlcnljefbbaadoor", sum := "794a2c8f05ebfd0d08ddb05ded0b7934b2138327dacacbfa021fe8b3487c36d2", func := "loop.example/g01073/laws.FnExactSeparatorOf", spec := "fnExactSeparatorOf", unfollowed := true, recurses := true, named := ["loop.example/g01073/impl.smallPrimes"], apart := false, laid := [("loop.example/g01073/impl.smallPrimes", laid_loop_example_g01073_impl_smallPrimes)], narrowed := true }
def FnExactSeparatorOfUptoSaid : Prop := fnExactSeparatorOfUptoRow.holds Tryd.pinned (OpenSpec.upto fnExactSeparatorOfSpec)

/-- 'laws.FnExactIsGraph', WHERE WHAT IT READS IS OF BULK AT MOST 1048576: true; the input reads as it did. -/
def fnExactIsGraphUptoRow : OpenClaim := { program := "ytimjlcnljefbbaadoor", sum := "794a2c8f05ebfd0d08ddb05ded0b7934b2138327dacacbfa021fe8b3487c36d2", func := "loop.example/g01073/laws.FnExactIsGraph", spec := "fnExactIsGraph", unfollowed := true, recurses := true, named := ["loop.example/g01073/impl.smallPrimes"], apart := false, laid := [("loop.example/g01073/impl.smallPrimes", laid_loop_example_g01073_impl_smallPrimes)], narrowed := true }
def FnExactIsGraphUptoSaid : Prop := fnExactIsGraphUptoRow.holds Tryd.pinned (OpenSpec.upto fnExactIsGraphSpec)

end Rows
end Go.Proofs.YtimjlcnljefbbaaDoor
