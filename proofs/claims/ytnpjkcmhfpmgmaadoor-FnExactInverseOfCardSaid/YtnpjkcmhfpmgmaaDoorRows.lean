/-
  NARROWER THAN 'FOR EVERY INPUT', by the rows' own cells (each row's printed sentence says how): FnExactAddMatrices: laid · FnExactMulMatrices: laid · FnExactMatrixPower: laid · FnExactMatrixRelation: laid · FnExactDeterminantOf: laid · FnExactRowReduce: laid · FnExactInverseOf: laid · FnExactRankOf: laid · FnExactSpanOf: laid.
  DERIVED. THE GIVEN ROWS OF THIS SEAT. 9 by the template 'for every input the law returns true; each argument reads behind the call as it read before'; 0 by the template 'total and deterministic' (their statements: YtnpjkcmhfpmgmaaDoorTotals.lean).
  GIVEN WITH THE SEED: the statements are not yours to turn. If you find one false, say at which input.
  Laid BY PROGRAM, IN A SANDBOX (cutbox-rows.mjs): the forced cells as the released guide's own fill.sh prints them over the translation c9d7bd0350e4049d… (all of the seat's roots in one cut). By AI agents, Wed Nov 11 2026. No macro, syntax, notation, axiom, sorry.
-/
import Derived.Test.YtnpjkcmhfpmgmaaDoorChecked
import GoSem.Claim
import GoSem.ClaimJoined
import GoSem.ClaimMapViews
import Derived.JoinedTies
import Derived.KernelRfl
namespace Go.Proofs.YtnpjkcmhfpmgmaaDoor
/- THE CELL 'sum', in the pinned program and in every row, IS THE sha256 OF THE DUMP (.gsa) THAT YtnpjkcmhfpmgmaaDoorProg.lean LOADS. Nothing in Lean hashes anything: it is a label: what it is worth is what the hold of that sum in a sandbox is worth. -/
noncomputable def Tryd.pinned : Pinned := { name := "ytnpjkcmhfpmgmaadoor", sum := "c9d7bd0350e4049d72a532a5f7a4226965183ace4b410b15a4224a9fd53c64eb", checked := Tryd.checked }
namespace Rows
def none {H : Type} : Left H := { results := [], args := [] }

/- WHAT THE LISTED PACKAGE-LEVEL VARIABLES READ AS WHEN THE CALL BEGINS. Each datum BY PROGRAM (the guide's laid-datum.mjs) off the statement by which the dump's own 'gosem.cut.vars' lays the variable. In a bare row this is a premise. The card (YtnpjkcmhfpmgmaaDoorCards.lean) ties it to the program's text. -/
def laid_loop_example_g01073_impl_smallPrimes {H : Type} : DataW H := .agg [.lit (.int .i64 2), .lit (.int .i64 3), .lit (.int .i64 5), .lit (.int .i64 7)]

/-- 'laws.FnExactAddMatrices': WHATEVER THE INPUT: true; the input reads as it did. -/
def fnExactAddMatricesSpec : ChangeSpec := { name := "fnExactAddMatrices", vars := ["loop.example/g01073/impl.smallPrimes"], fn := fun _ => fun
  | [d1, d2, d3, g1] => { results := [.lit (.bool true)], args := [d1, d2, d3], vars := [g1] }
  | _ => none }
def fnExactAddMatricesRow : OpenClaim := { program := "ytnpjkcmhfpmgmaadoor", sum := "c9d7bd0350e4049d72a532a5f7a4226965183ace4b410b15a4224a9fd53c64eb", func := "loop.example/g01073/laws.FnExactAddMatrices", spec := "fnExactAddMatrices", named := ["loop.example/g01073/impl.smallPrimes"], apart := false, laid := [("loop.example/g01073/impl.smallPrimes", laid_loop_example_g01073_impl_smallPrimes)] }
def FnExactAddMatricesSaid : Prop := fnExactAddMatricesRow.holds Tryd.pinned (OpenSpec.ofChange fnExactAddMatricesSpec)

/-- ITS FALSE NEIGHBOUR: 'it returns false'. Refute it at one input. -/
def fnExactAddMatricesWrong : ChangeSpec := { name := "fnExactAddMatrices", vars := ["loop.example/g01073/impl.smallPrimes"], fn := fun _ => fun
  | [d1, d2, d3, g1] => { results := [.lit (.bool false)], args := [d1, d2, d3], vars := [g1] }
  | _ => none }
def FnExactAddMatricesWrongFalsely : Prop := fnExactAddMatricesRow.holds Tryd.pinned (OpenSpec.ofChange fnExactAddMatricesWrong)

/-- 'laws.FnExactMulMatrices': WHATEVER THE INPUT: true; the input reads as it did. -/
def fnExactMulMatricesSpec : ChangeSpec := { name := "fnExactMulMatrices", vars := ["loop.example/g01073/impl.smallPrimes"], fn := fun _ => fun
  | [d1, d2, d3, g1] => { results := [.lit (.bool true)], args := [d1, d2, d3], vars := [g1] }
  | _ => none }
def fnExactMulMatricesRow : OpenClaim := { program := "ytnpjkcmhfpmgmaadoor", sum := "c9d7bd0350e4049d72a532a5f7a4226965183ace4b410b15a4224a9fd53c64eb", func := "loop.example/g01073/laws.FnExactMulMatrices", spec := "fnExactMulMatrices", named := ["loop.example/g01073/impl.smallPrimes"], apart := false, laid := [("loop.example/g01073/impl.smallPrimes", laid_loop_example_g01073_impl_smallPrimes)] }
def FnExactMulMatricesSaid : Prop := fnExactMulMatricesRow.holds Tryd.pinned (OpenSpec.ofChange fnExactMulMatricesSpec)

/-- ITS FALSE NEIGHBOUR: 'it returns false'. Refute it at one input. -/
def fnExactMulMatricesWrong : ChangeSpec := { name := "fnExactMulMatrices", vars := ["loop.example/g01073/impl.smallPrimes"], fn := fun _ => fun
  | [d1, d2, d3, g1] => { results := [.lit (.bool false)], args := [d1, d2, d3], vars := [g1] }
  | _ => none }
def FnExactMulMatricesWrongFalsely : Prop := fnExactMulMatricesRow.holds Tryd.pinned (OpenSpec.ofChange fnExactMulMatricesWrong)

/-- 'laws.FnExactMatrixPower': WHATEVER THE INPUT: true; the input reads as it did. -/
def fnExactMatrixPowerSpec : ChangeSpec := { name := "fnExactMatrixPower", vars := ["loop.example/g01073/impl.smallPrimes"], fn := fun _ => fun
  | [d1, d2, d3, g1] => { results := [.lit (.bool true)], args := [d1, d2, d3], vars := [g1] }
  | _ => none }
def fnExactMatrixPowerRow : OpenClaim := { program := "ytnpjkcmhfpmgmaadoor", sum := "c9d7bd0350e4049d72a532a5f7a4226965183ace4b410b15a4224a9fd53c64eb", func := "loop.example/g01073/laws.FnExactMatrixPower", spec := "fnExactMatrixPower", named := ["loop.example/g01073/impl.smallPrimes"], apart := false, laid := [("loop.example/g01073/impl.smallPrimes", laid_loop_example_g01073_impl_smallPrimes)] }
def FnExactMatrixPowerSaid : Prop := fnExactMatrixPowerRow.holds Tryd.pinned (OpenSpec.ofChange fnExactMatrixPowerSpec)

/-- ITS FALSE NEIGHBOUR: 'it returns false'. Refute it at one input. -/
def fnExactMatrixPowerWrong : ChangeSpec := { name := "fnExactMatrixPower", vars := ["loop.example/g01073/impl.smallPrimes"], fn := fun _ => fun
  | [d1, d2, d3, g1] => { results := [.lit (.bool false)], args := [d1, d2, d3], vars := [g1] }
  | _ => none }
def FnExactMatrixPowerWrongFalsely : Prop := fnExactMatrixPowerRow.holds Tryd.pinned (OpenSpec.ofChange fnExactMatrixPowerWrong)

/-- 'laws.FnExactMatrixRelation': WHATEVER THE INPUT: true; the input reads as it did. -/
def fnExactMatrixRelationSpec : ChangeSpec := { name := "fnExactMatrixRelation", vars := ["loop.example/g01073/impl.smallPrimes"], fn := fun _ => fun
  | [d1, d2, g1] => { results := [.lit (.bool true)], args := [d1, d2], vars := [g1] }
  | _ => none }
def fnExactMatrixRelationRow : OpenClaim := { program := "ytnpjkcmhfpmgmaadoor", sum := "c9d7bd0350e4049d72a532a5f7a4226965183ace4b410b15a4224a9fd53c64eb", func := "loop.example/g01073/laws.FnExactMatrixRelation", spec := "fnExactMatrixRelation", named := ["loop.example/g01073/impl.smallPrimes"], apart := false, laid := [("loop.example/g01073/impl.smallPrimes", laid_loop_example_g01073_impl_smallPrimes)] }
def FnExactMatrixRelationSaid : Prop := fnExactMatrixRelationRow.holds Tryd.pinned (OpenSpec.ofChange fnExactMatrixRelationSpec)

/-- ITS FALSE NEIGHBOUR: 'it returns false'. Refute it at one input. -/
def fnExactMatrixRelationWrong : ChangeSpec := { name := "fnExactMatrixRelation", vars := ["loop.example/g01073/impl.smallPrimes"], fn := fun _ => fun
  | [d1, d2, g1] => { results := [.lit (.bool false)], args := [d1, d2], vars := [g1] }
  | _ => none }
def FnExactMatrixRelationWrongFalsely : Prop := fnExactMatrixRelationRow.holds Tryd.pinned (OpenSpec.ofChange fnExactMatrixRelationWrong)

/-- 'laws.FnExactDeterminantOf': WHATEVER THE INPUT: true; the input reads as it did. -/
def fnExactDeterminantOfSpec : ChangeSpec := { name := "fnExactDeterminantOf", vars := ["loop.example/g01073/impl.smallPrimes"], fn := fun _ => fun
  | [d1, d2, g1] => { results := [.lit (.bool true)], args := [d1, d2], vars := [g1] }
  | _ => none }
def fnExactDeterminantOfRow : OpenClaim := { program := "ytnpjkcmhfpmgmaadoor", sum := "c9d7bd0350e4049d72a532a5f7a4226965183ace4b410b15a4224a9fd53c64eb", func := "loop.example/g01073/laws.FnExactDeterminantOf", spec := "fnExactDeterminantOf", named := ["loop.example/g01073/impl.smallPrimes"], apart := false, laid := [("loop.example/g01073/impl.smallPrimes", laid_loop_example_g01073_impl_smallPrimes)] }
def FnExactDeterminantOfSaid : Prop := fnExactDeterminantOfRow.holds Tryd.pinned (OpenSpec.ofChange fnExactDeterminantOfSpec)

/-- ITS FALSE NEIGHBOUR: 'it returns false'. Refute it at one input. -/
def fnExactDeterminantOfWrong : ChangeSpec := { name := "fnExactDeterminantOf", vars := ["loop.example/g01073/impl.smallPrimes"], fn := fun _ => fun
  | [d1, d2, g1] => { results := [.lit (.bool false)], args := [d1, d2], vars := [g1] }
  | _ => none }
def FnExactDeterminantOfWrongFalsely : Prop := fnExactDeterminantOfRow.holds Tryd.pinned (OpenSpec.ofChange fnExactDeterminantOfWrong)

/-- 'laws.FnExactRowReduce': WHATEVER THE INPUT: true; the input reads as it did. -/
def fnExactRowReduceSpec : ChangeSpec := { name := "fnExactRowReduce", vars := ["loop.example/g01073/impl.smallPrimes"], fn := fun _ => fun
  | [d1, d2, g1] => { results := [.lit (.bool true)], args := [d1, d2], vars := [g1] }
  | _ => none }
def fnExactRowReduceRow : OpenClaim := { program := "ytnpjkcmhfpmgmaadoor", sum := "c9d7bd0350e4049d72a532a5f7a4226965183ace4b410b15a4224a9fd53c64eb", func := "loop.example/g01073/laws.FnExactRowReduce", spec := "fnExactRowReduce", unfollowed := true, recurses := true, named := ["loop.example/g01073/impl.smallPrimes"], apart := false, laid := [("loop.example/g01073/impl.smallPrimes", laid_loop_example_g01073_impl_smallPrimes)] }
def FnExactRowReduceSaid : Prop := fnExactRowReduceRow.holds Tryd.pinned (OpenSpec.ofChange fnExactRowReduceSpec)

/-- ITS FALSE NEIGHBOUR: 'it returns false'. Refute it at one input. -/
def fnExactRowReduceWrong : ChangeSpec := { name := "fnExactRowReduce", vars := ["loop.example/g01073/impl.smallPrimes"], fn := fun _ => fun
  | [d1, d2, g1] => { results := [.lit (.bool false)], args := [d1, d2], vars := [g1] }
  | _ => none }
def FnExactRowReduceWrongFalsely : Prop := fnExactRowReduceRow.holds Tryd.pinned (OpenSpec.ofChange fnExactRowReduceWrong)

/-- 'laws.FnExactInverseOf': WHATEVER THE INPUT: true; the input reads as it did. -/
def fnExactInverseOfSpec : ChangeSpec := { name := "fnExactInverseOf", vars := ["loop.example/g01073/impl.smallPrimes"], fn := fun _ => fun
  | [d1, d2, g1] => { results := [.lit (.bool true)], args := [d1, d2], vars := [g1] }
  | _ => none }
def fnExactInverseOfRow : OpenClaim := { program := "ytnpjkcmhfpmgmaadoor", sum := "c9d7bd0350e4049d72a532a5f7a4226965183ace4b410b15a4224a9fd53c64eb", func := "loop.example/g01073/laws.FnExactInverseOf", spec := "fnExactInverseOf", unfollowed := true, recurses := true, named := ["loop.example/g01073/impl.smallPrimes"], apart := false, laid := [("loop.example/g01073/impl.smallPrimes", laid_loop_example_g01073_impl_smallPrimes)] }
def FnExactInverseOfSaid : Prop := fnExactInverseOfRow.holds Tryd.pinned (OpenSpec.ofChange fnExactInverseOfSpec)

/-- ITS FALSE NEIGHBOUR: 'it returns false'. Refute it at one input. -/
def fnExactInverseOfWrong : ChangeSpec := { name := "fnExactInverseOf", vars := ["loop.example/g01073/impl.smallPrimes"], fn := fun _ => fun
  | [d1, d2, g1] => { results := [.lit (.bool false)], args := [d1, d2], vars := [g1] }
  | _ => none }
def FnExactInverseOfWrongFalsely : Prop := fnExactInverseOfRow.holds Tryd.pinned (OpenSpec.ofChange fnExactInverseOfWrong)

/-- 'laws.FnExactRankOf': WHATEVER THE INPUT: true; the input reads as it did. -/
def fnExactRankOfSpec : ChangeSpec := { name := "fnExactRankOf", vars := ["loop.example/g01073/impl.smallPrimes"], fn := fun _ => fun
  | [d1, d2, g1] => { results := [.lit (.bool true)], args := [d1, d2], vars := [g1] }
  | _ => none }
def fnExactRankOfRow : OpenClaim := { program := "ytnpjkcmhfpmgmaadoor", sum := "c9d7bd0350e4049d72a532a5f7a4226965183ace4b410b15a4224a9fd53c64eb", func := "loop.example/g01073/laws.FnExactRankOf", spec := "fnExactRankOf", unfollowed := true, recurses := true, named := ["loop.example/g01073/impl.smallPrimes"], apart := false, laid := [("loop.example/g01073/impl.smallPrimes", laid_loop_example_g01073_impl_smallPrimes)] }
def FnExactRankOfSaid : Prop := fnExactRankOfRow.holds Tryd.pinned (OpenSpec.ofChange fnExactRankOfSpec)

/-- ITS FALSE NEIGHBOUR: 'it returns false'. Refute it at one input. -/
def fnExactRankOfWrong : ChangeSpec := { name := "fnExactRankOf", vars := ["loop.example/g01073/impl.smallPrimes"], fn := fun _ => fun
  | [d1, d2, g1] => { results := [.lit (.bool false)], args := [d1, d2], vars := [g1] }
  | _ => none }
def FnExactRankOfWrongFalsely : Prop := fnExactRankOfRow.holds Tryd.pinned (OpenSpec.ofChange fnExactRankOfWrong)

/-- 'laws.FnExactSpanOf': WHATEVER THE INPUT: true; the input reads as it did. -/
def fnExactSpanOfSpec : ChangeSpec := { name := "fnExactSpanOf", vars := ["loop.example/g01073/impl.smallPrimes"], fn := fun _ => fun
  | [d1, d2, d3, g1] => { results := [.lit (.bool true)], args := [d1, d2, d3], vars := [g1] }
  | _ => none }
def fnExactSpanOfRow : OpenClaim := { program := "ytnpjkcmhfpmgmaadoor", sum := "c9d7bd0350e4049d72a532a5f7a4226965183ace4b410b15a4224a9fd53c64eb", func := "loop.example/g01073/laws.FnExactSpanOf", spec := "fnExactSpanOf", unfollowed := true, recurses := true, named := ["loop.example/g01073/impl.smallPrimes"], apart := false, laid := [("loop.example/g01073/impl.smallPrimes", laid_loop_example_g01073_impl_smallPrimes)] }
def FnExactSpanOfSaid : Prop := fnExactSpanOfRow.holds Tryd.pinned (OpenSpec.ofChange fnExactSpanOfSpec)

/-- ITS FALSE NEIGHBOUR: 'it returns false'. Refute it at one input. -/
def fnExactSpanOfWrong : ChangeSpec := { name := "fnExactSpanOf", vars := ["loop.example/g01073/impl.smallPrimes"], fn := fun _ => fun
  | [d1, d2, d3, g1] => { results := [.lit (.bool false)], args := [d1, d2, d3], vars := [g1] }
  | _ => none }
def FnExactSpanOfWrongFalsely : Prop := fnExactSpanOfRow.holds Tryd.pinned (OpenSpec.ofChange fnExactSpanOfWrong)

/- THE SECOND FORM. 'bulk': how many values and letters a reading holds, each counted each time it is reached (what is shared counts as often as it is met; a slice's spare places count too). A statement '..UptoSaid' is the law's where the arguments, and the package variables that the reading takes, are together of bulk at most 1048576: NARROWER than '..Said'. Prove '..Said' where nothing that the law and all that it calls make is longer than what came in: it says more and counts as full. Else prove '..UptoSaid'. A law counts once. -/
mutual
def uptoBulk {H : Type} : DataW H → Nat
  | .lit (.string bytes) => bytes.length + 1
  | .lit _ => 1
  | .nil => 1
  | .ptr d => uptoBulk d + 1
  | .slice elems spare => uptoBulkAll elems + uptoBulkAll spare + 1
  | .agg parts => uptoBulkAll parts + 1
  | .iface _ d => uptoBulk d + 1
  | .map entries => uptoBulkEntries entries + 1
  | .held _ => 1
def uptoBulkAll {H : Type} : List (DataW H) → Nat
  | [] => 0
  | d :: r => uptoBulk d + uptoBulkAll r
def uptoBulkEntries {H : Type} : List (Lit × DataW H) → Nat
  | [] => 0
  | x :: r => uptoBulkEntry x + uptoBulkEntries r
def uptoBulkEntry {H : Type} : Lit × DataW H → Nat
  | (.string bytes, d) => bytes.length + uptoBulk d + 1
  | (_, d) => uptoBulk d + 1
 end
def uptoSmall : (H : Type) → List (DataW H) → Bool := fun _ ds => decide (uptoBulkAll ds ≤ 1048576)
def OpenSpec.upto (s : _root_.Go.ChangeSpec) : _root_.Go.OpenSpec := { _root_.Go.OpenSpec.ofChange s with cond := some uptoSmall }

/-- 'laws.FnExactAddMatrices', WHERE WHAT IT READS IS OF BULK AT MOST 1048576: true; the input reads as it did. -/
def fnExactAddMatricesUptoRow : OpenClaim := { program := "ytnpjkcmhfpmgmaadoor", sum := "c9d7bd0350e4049d72a532a5f7a4226965183ace4b410b15a4224a9fd53c64eb", func := "loop.example/g01073/laws.FnExactAddMatrices", spec := "fnExactAddMatrices", named := ["loop.example/g01073/impl.smallPrimes"], apart := false, laid := [("loop.example/g01073/impl.smallPrimes", laid_loop_example_g01073_impl_smallPrimes)], narrowed := true }
def FnExactAddMatricesUptoSaid : Prop := fnExactAddMatricesUptoRow.holds Tryd.pinned (OpenSpec.upto fnExactAddMatricesSpec)

/-- 'laws.FnExactMulMatrices', WHERE WHAT IT READS IS OF BULK AT MOST 1048576: true; the input reads as it did. -/
def fnExactMulMatricesUptoRow : OpenClaim := { program := "ytnpjkcmhfpmgmaadoor", sum := "c9d7bd0350e4049d72a532a5f7a4226965183ace4b410b15a4224a9fd53c64eb", func := "loop.example/g01073/laws.FnExactMulMatrices", spec := "fnExactMulMatrices", named := ["loop.example/g01073/impl.smallPrimes"], apart := false, laid := [("loop.example/g01073/impl.smallPrimes", laid_loop_example_g01073_impl_smallPrimes)], narrowed := true }
def FnExactMulMatricesUptoSaid : Prop := fnExactMulMatricesUptoRow.holds Tryd.pinned (OpenSpec.upto fnExactMulMatricesSpec)

/-- 'laws.FnExactMatrixPower', WHERE WHAT IT READS IS OF BULK AT MOST 1048576: true; the input reads as it did. -/
def fnExactMatrixPowerUptoRow : OpenClaim := { program := "ytnpjkcmhfpmgmaadoor", sum := "c9d7bd0350e4049d72a532a5f7a4226965183ace4b410b15a4224a9fd53c64eb", func := "loop.example/g01073/laws.FnExactMatrixPower", spec := "fnExactMatrixPower", named := ["loop.example/g01073/impl.smallPrimes"], apart := false, laid := [("loop.example/g01073/impl.smallPrimes", laid_loop_example_g01073_impl_smallPrimes)], narrowed := true }
def FnExactMatrixPowerUptoSaid : Prop := fnExactMatrixPowerUptoRow.holds Tryd.pinned (OpenSpec.upto fnExactMatrixPowerSpec)

/-- 'laws.FnExactMatrixRelation', WHERE WHAT IT READS IS OF BULK AT MOST 1048576: true; the input reads as it did. -/
def fnExactMatrixRelationUptoRow : OpenClaim := { program := "ytnpjkcmhfpmgmaadoor", sum := "c9d7bd0350e4049d72a532a5f7a4226965183ace4b410b15a4224a9fd53c64eb", func := "loop.example/g01073/laws.FnExactMatrixRelation", spec := "fnExactMatrixRelation", named := ["loop.example/g01073/impl.smallPrimes"], apart := false, laid := [("loop.example/g01073/impl.smallPrimes", laid_loop_example_g01073_impl_smallPrimes)], narrowed := true }
def FnExactMatrixRelationUptoSaid : Prop := fnExactMatrixRelationUptoRow.holds Tryd.pinned (OpenSpec.upto fnExactMatrixRelationSpec)

/-- 'laws.FnExactDeterminantOf', WHERE WHAT IT READS IS OF BULK AT MOST 1048576: true; the input reads as it did. -/
def fnExactDeterminantOfUptoRow : OpenClaim := { program := "ytnpjkcmhfpmgmaadoor", sum := "c9d7bd0350e4049d72a532a5f7a4226965183ace4b410b15a4224a9fd53c64eb", func := "loop.example/g01073/laws.FnExactDeterminantOf", spec := "fnExactDeterminantOf", named := ["loop.example/g01073/impl.smallPrimes"], apart := false, laid := [("loop.example/g01073/impl.smallPrimes", laid_loop_example_g01073_impl_smallPrimes)], narrowed := true }
def FnExactDeterminantOfUptoSaid : Prop := fnExactDeterminantOfUptoRow.holds Tryd.pinned (OpenSpec.upto fnExactDeterminantOfSpec)

/-- 'laws.FnExactRowReduce', WHERE WHAT IT READS IS OF BULK AT MOST 1048576: true; the input reads as it did. -/
def fnExactRowReduceUptoRow : OpenClaim := { program := "ytnpjkcmhfpmgmaadoor", sum := "c9d7bd0350e4049d72a532a5f7a4226965183ace4b410b15a4224a9fd53c64eb", func := "loop.example/g01073/laws.FnExactRowReduce", spec := "fnExactRowReduce", unfollowed := true, recurses := true, named := ["loop.example/g01073/impl.smallPrimes"], apart := false, laid := [("loop.example/g01073/impl.smallPrimes", laid_loop_example_g01073_impl_smallPrimes)], narrowed := true }
def FnExactRowReduceUptoSaid : Prop := fnExactRowReduceUptoRow.holds Tryd.pinned (OpenSpec.upto fnExactRowReduceSpec)

/-- 'laws.FnExactInverseOf', WHERE WHAT IT READS IS OF BULK AT MOST 1048576: true; the input reads as it did. -/
def fnExactInverseOfUptoRow : OpenClaim := { program := "ytnpjkcmhfpmgmaadoor", sum := "c9d7bd0350e4049d72a532a5f7a4226965183ace4b410b15a4224a9fd53c64eb", func := "loop.example/g01073/laws.FnExactInverseOf", spec := "fnExactInverseOf", unfollowed := true, recurses := true, named := ["loop.example/g01073/impl.smallPrimes"], apart := false, laid := [("loop.example/g01073/impl.smallPrimes", laid_loop_example_g01073_impl_smallPrimes)], narrowed := true }
def FnExactInverseOfUptoSaid : Prop := fnExactInverseOfUptoRow.holds Tryd.pinned (OpenSpec.upto fnExactInverseOfSpec)

/-- 'laws.FnExactRankOf', WHERE WHAT IT READS IS OF BULK AT MOST 1048576: true; the input reads as it did. -/
def fnExactRankOfUptoRow : OpenClaim := { program := "ytnpjkcmhfpmgmaadoor", sum := "c9d7bd0350e4049d72a532a5f7a4226965183ace4b410b15a4224a9fd53c64eb", func := "loop.example/g01073/laws.FnExactRankOf", spec := "fnExactRankOf", unfollowed := true, recurses := true, named := ["loop.example/g01073/impl.smallPrimes"], apart := false, laid := [("loop.example/g01073/impl.smallPrimes", laid_loop_example_g01073_impl_smallPrimes)], narrowed := true }
def FnExactRankOfUptoSaid : Prop := fnExactRankOfUptoRow.holds Tryd.pinned (OpenSpec.upto fnExactRankOfSpec)

/-- 'laws.FnExactSpanOf', WHERE WHAT IT READS IS OF BULK AT MOST 1048576: true; the input reads as it did. -/
def fnExactSpanOfUptoRow : OpenClaim := { program := "ytnpjkcmhfpmgmaadoor", sum := "c9d7bd0350e4049d72a532a5f7a4226965183ace4b410b15a4224a9fd53c64eb", func := "loop.example/g01073/laws.FnExactSpanOf", spec := "fnExactSpanOf", unfollowed := true, recurses := true, named := ["loop.example/g01073/impl.smallPrimes"], apart := false, laid := [("loop.example/g01073/impl.smallPrimes", laid_loop_example_g01073_impl_smallPrimes)], narrowed := true }
def FnExactSpanOfUptoSaid : Prop := fnExactSpanOfUptoRow.holds Tryd.pinned (OpenSpec.upto fnExactSpanOfSpec)

end Rows
end Go.Proofs.YtnpjkcmhfpmgmaaDoor
