/-
  NARROWER THAN 'FOR EVERY INPUT', by the rows' own cells (each row's printed sentence says how): FnExactIsField: laid · FnExactFieldAdd: laid · FnExactFieldMul: laid · FnExactPrimitiveRoot: laid · FnExactSquareRoot: laid · FnExactDiscreteLog: laid · FnExactElementOrder: laid · FnExactFieldInverse: laid · FnExactFieldPower: laid · FnExactQuadraticRoots: laid.
  DERIVED. THE GIVEN ROWS OF THIS SEAT. 10 by the template 'for every input the law returns true; each argument reads behind the call as it read before'; 0 by the template 'total and deterministic' (their statements: YtkkiconlcboehaaDoorTotals.lean).
  GIVEN WITH THE SEED: the statements are not yours to turn. If you find one false, say at which input.
  Laid BY PROGRAM, IN A SANDBOX (cutbox-rows.mjs): the forced cells as the released guide's own fill.sh prints them over the translation 8529540a6e287717… (all of the seat's roots in one cut). By AI agents, Wed Nov 11 2026. No macro, syntax, notation, axiom, sorry.
-/
import Derived.Test.YtkkiconlcboehaaDoorChecked
import GoSem.Claim
import GoSem.ClaimJoined
import GoSem.ClaimMapViews
import Derived.JoinedTies
import Derived.KernelRfl
namespace Go.Proofs.YtkkiconlcboehaaDoor
/- THE CELL 'sum', in the pinned program and in every row, IS THE sha256 OF THE DUMP (.gsa) THAT YtkkiconlcboehaaDoorProg.lean LOADS. Nothing in Lean hashes anything: it is a label: what it is worth is what the hold of that sum in a sandbox is worth. -/
noncomputable def Tryd.pinned : Pinned := { name := "ytkkiconlcboehaadoor", sum := "8529540a6e28771761821c9cbedbc133018fb011d29821613ef137a1613c0cdd", checked := Tryd.checked }
namespace Rows
def none {H : Type} : Left H := { results := [], args := [] }

/- WHAT THE LISTED PACKAGE-LEVEL VARIABLES READ AS WHEN THE CALL BEGINS. Each datum BY PROGRAM (the guide's laid-datum.mjs) off the statement by which the dump's own 'gosem.cut.vars' lays the variable. In a bare row this is a premise. The card (YtkkiconlcboehaaDoorCards.lean) ties it to the program's text. -/
def laid_loop_example_g01073_impl_smallPrimes {H : Type} : DataW H := .agg [.lit (.int .i64 2), .lit (.int .i64 3), .lit (.int .i64 5), .lit (.int .i64 7)]

/-- 'laws.FnExactIsField': WHATEVER THE INPUT: true; the input reads as it did. -/
def fnExactIsFieldSpec : ChangeSpec := { name := "fnExactIsField", vars := ["loop.example/g01073/impl.smallPrimes"], fn := fun _ => fun
  | [d, g1] => { results := [.lit (.bool true)], args := [d], vars := [g1] }
  | _ => none }
def fnExactIsFieldRow : OpenClaim := { program := "ytkkiconlcboehaadoor", sum := "8529540a6e28771761821c9cbedbc133018fb011d29821613ef137a1613c0cdd", func := "loop.example/g01073/laws.FnExactIsField", spec := "fnExactIsField", named := ["loop.example/g01073/impl.smallPrimes"], apart := false, laid := [("loop.example/g01073/impl.smallPrimes", laid_loop_example_g01073_impl_smallPrimes)] }
def FnExactIsFieldSaid : Prop := fnExactIsFieldRow.holds Tryd.pinned (OpenSpec.ofChange fnExactIsFieldSpec)

/-- ITS FALSE NEIGHBOUR: 'it returns false'. Refute it at one input. -/
def fnExactIsFieldWrong : ChangeSpec := { name := "fnExactIsField", vars := ["loop.example/g01073/impl.smallPrimes"], fn := fun _ => fun
  | [d, g1] => { results := [.lit (.bool false)], args := [d], vars := [g1] }
  | _ => none }
def FnExactIsFieldWrongFalsely : Prop := fnExactIsFieldRow.holds Tryd.pinned (OpenSpec.ofChange fnExactIsFieldWrong)

/-- 'laws.FnExactFieldAdd': WHATEVER THE INPUT: true; the input reads as it did. -/
def fnExactFieldAddSpec : ChangeSpec := { name := "fnExactFieldAdd", vars := ["loop.example/g01073/impl.smallPrimes"], fn := fun _ => fun
  | [d1, d2, d3, g1] => { results := [.lit (.bool true)], args := [d1, d2, d3], vars := [g1] }
  | _ => none }
def fnExactFieldAddRow : OpenClaim := { program := "ytkkiconlcboehaadoor", sum := "8529540a6e28771761821c9cbedbc133018fb011d29821613ef137a1613c0cdd", func := "loop.example/g01073/laws.FnExactFieldAdd", spec := "fnExactFieldAdd", named := ["loop.example/g01073/impl.smallPrimes"], apart := false, laid := [("loop.example/g01073/impl.smallPrimes", laid_loop_example_g01073_impl_smallPrimes)] }
def FnExactFieldAddSaid : Prop := fnExactFieldAddRow.holds Tryd.pinned (OpenSpec.ofChange fnExactFieldAddSpec)

/-- ITS FALSE NEIGHBOUR: 'it returns false'. Refute it at one input. -/
def fnExactFieldAddWrong : ChangeSpec := { name := "fnExactFieldAdd", vars := ["loop.example/g01073/impl.smallPrimes"], fn := fun _ => fun
  | [d1, d2, d3, g1] => { results := [.lit (.bool false)], args := [d1, d2, d3], vars := [g1] }
  | _ => none }
def FnExactFieldAddWrongFalsely : Prop := fnExactFieldAddRow.holds Tryd.pinned (OpenSpec.ofChange fnExactFieldAddWrong)

/-- 'laws.FnExactFieldMul': WHATEVER THE INPUT: true; the input reads as it did. -/
def fnExactFieldMulSpec : ChangeSpec := { name := "fnExactFieldMul", vars := ["loop.example/g01073/impl.smallPrimes"], fn := fun _ => fun
  | [d1, d2, d3, g1] => { results := [.lit (.bool true)], args := [d1, d2, d3], vars := [g1] }
  | _ => none }
def fnExactFieldMulRow : OpenClaim := { program := "ytkkiconlcboehaadoor", sum := "8529540a6e28771761821c9cbedbc133018fb011d29821613ef137a1613c0cdd", func := "loop.example/g01073/laws.FnExactFieldMul", spec := "fnExactFieldMul", named := ["loop.example/g01073/impl.smallPrimes"], apart := false, laid := [("loop.example/g01073/impl.smallPrimes", laid_loop_example_g01073_impl_smallPrimes)] }
def FnExactFieldMulSaid : Prop := fnExactFieldMulRow.holds Tryd.pinned (OpenSpec.ofChange fnExactFieldMulSpec)

/-- ITS FALSE NEIGHBOUR: 'it returns false'. Refute it at one input. -/
def fnExactFieldMulWrong : ChangeSpec := { name := "fnExactFieldMul", vars := ["loop.example/g01073/impl.smallPrimes"], fn := fun _ => fun
  | [d1, d2, d3, g1] => { results := [.lit (.bool false)], args := [d1, d2, d3], vars := [g1] }
  | _ => none }
def FnExactFieldMulWrongFalsely : Prop := fnExactFieldMulRow.holds Tryd.pinned (OpenSpec.ofChange fnExactFieldMulWrong)

/-- 'laws.FnExactPrimitiveRoot': WHATEVER THE INPUT: true; the input reads as it did. -/
def fnExactPrimitiveRootSpec : ChangeSpec := { name := "fnExactPrimitiveRoot", vars := ["loop.example/g01073/impl.smallPrimes"], fn := fun _ => fun
  | [d, g1] => { results := [.lit (.bool true)], args := [d], vars := [g1] }
  | _ => none }
def fnExactPrimitiveRootRow : OpenClaim := { program := "ytkkiconlcboehaadoor", sum := "8529540a6e28771761821c9cbedbc133018fb011d29821613ef137a1613c0cdd", func := "loop.example/g01073/laws.FnExactPrimitiveRoot", spec := "fnExactPrimitiveRoot", named := ["loop.example/g01073/impl.smallPrimes"], apart := false, laid := [("loop.example/g01073/impl.smallPrimes", laid_loop_example_g01073_impl_smallPrimes)] }
def FnExactPrimitiveRootSaid : Prop := fnExactPrimitiveRootRow.holds Tryd.pinned (OpenSpec.ofChange fnExactPrimitiveRootSpec)

/-- ITS FALSE NEIGHBOUR: 'it returns false'. Refute it at one input. -/
def fnExactPrimitiveRootWrong : ChangeSpec := { name := "fnExactPrimitiveRoot", vars := ["loop.example/g01073/impl.smallPrimes"], fn := fun _ => fun
  | [d, g1] => { results := [.lit (.bool false)], args := [d], vars := [g1] }
  | _ => none }
def FnExactPrimitiveRootWrongFalsely : Prop := fnExactPrimitiveRootRow.holds Tryd.pinned (OpenSpec.ofChange fnExactPrimitiveRootWrong)

/-- 'laws.FnExactSquareRoot': WHATEVER THE INPUT: true; the input reads as it did. -/
def fnExactSquareRootSpec : ChangeSpec := { name := "fnExactSquareRoot", vars := ["loop.example/g01073/impl.smallPrimes"], fn := fun _ => fun
  | [d1, d2, g1] => { results := [.lit (.bool true)], args := [d1, d2], vars := [g1] }
  | _ => none }
def fnExactSquareRootRow : OpenClaim := { program := "ytkkiconlcboehaadoor", sum := "8529540a6e28771761821c9cbedbc133018fb011d29821613ef137a1613c0cdd", func := "loop.example/g01073/laws.FnExactSquareRoot", spec := "fnExactSquareRoot", named := ["loop.example/g01073/impl.smallPrimes"], apart := false, laid := [("loop.example/g01073/impl.smallPrimes", laid_loop_example_g01073_impl_smallPrimes)] }
def FnExactSquareRootSaid : Prop := fnExactSquareRootRow.holds Tryd.pinned (OpenSpec.ofChange fnExactSquareRootSpec)

/-- ITS FALSE NEIGHBOUR: 'it returns false'. Refute it at one input. -/
def fnExactSquareRootWrong : ChangeSpec := { name := "fnExactSquareRoot", vars := ["loop.example/g01073/impl.smallPrimes"], fn := fun _ => fun
  | [d1, d2, g1] => { results := [.lit (.bool false)], args := [d1, d2], vars := [g1] }
  | _ => none }
def FnExactSquareRootWrongFalsely : Prop := fnExactSquareRootRow.holds Tryd.pinned (OpenSpec.ofChange fnExactSquareRootWrong)

/-- 'laws.FnExactDiscreteLog': WHATEVER THE INPUT: true; the input reads as it did. -/
def fnExactDiscreteLogSpec : ChangeSpec := { name := "fnExactDiscreteLog", vars := ["loop.example/g01073/impl.smallPrimes"], fn := fun _ => fun
  | [d1, d2, d3, g1] => { results := [.lit (.bool true)], args := [d1, d2, d3], vars := [g1] }
  | _ => none }
def fnExactDiscreteLogRow : OpenClaim := { program := "ytkkiconlcboehaadoor", sum := "8529540a6e28771761821c9cbedbc133018fb011d29821613ef137a1613c0cdd", func := "loop.example/g01073/laws.FnExactDiscreteLog", spec := "fnExactDiscreteLog", named := ["loop.example/g01073/impl.smallPrimes"], apart := false, laid := [("loop.example/g01073/impl.smallPrimes", laid_loop_example_g01073_impl_smallPrimes)] }
def FnExactDiscreteLogSaid : Prop := fnExactDiscreteLogRow.holds Tryd.pinned (OpenSpec.ofChange fnExactDiscreteLogSpec)

/-- ITS FALSE NEIGHBOUR: 'it returns false'. Refute it at one input. -/
def fnExactDiscreteLogWrong : ChangeSpec := { name := "fnExactDiscreteLog", vars := ["loop.example/g01073/impl.smallPrimes"], fn := fun _ => fun
  | [d1, d2, d3, g1] => { results := [.lit (.bool false)], args := [d1, d2, d3], vars := [g1] }
  | _ => none }
def FnExactDiscreteLogWrongFalsely : Prop := fnExactDiscreteLogRow.holds Tryd.pinned (OpenSpec.ofChange fnExactDiscreteLogWrong)

/-- 'laws.FnExactElementOrder': WHATEVER THE INPUT: true; the input reads as it did. -/
def fnExactElementOrderSpec : ChangeSpec := { name := "fnExactElementOrder", vars := ["loop.example/g01073/impl.smallPrimes"], fn := fun _ => fun
  | [d1, d2, g1] => { results := [.lit (.bool true)], args := [d1, d2], vars := [g1] }
  | _ => none }
def fnExactElementOrderRow : OpenClaim := { program := "ytkkiconlcboehaadoor", sum := "8529540a6e28771761821c9cbedbc133018fb011d29821613ef137a1613c0cdd", func := "loop.example/g01073/laws.FnExactElementOrder", spec := "fnExactElementOrder", named := ["loop.example/g01073/impl.smallPrimes"], apart := false, laid := [("loop.example/g01073/impl.smallPrimes", laid_loop_example_g01073_impl_smallPrimes)] }
def FnExactElementOrderSaid : Prop := fnExactElementOrderRow.holds Tryd.pinned (OpenSpec.ofChange fnExactElementOrderSpec)

/-- ITS FALSE NEIGHBOUR: 'it returns false'. Refute it at one input. -/
def fnExactElementOrderWrong : ChangeSpec := { name := "fnExactElementOrder", vars := ["loop.example/g01073/impl.smallPrimes"], fn := fun _ => fun
  | [d1, d2, g1] => { results := [.lit (.bool false)], args := [d1, d2], vars := [g1] }
  | _ => none }
def FnExactElementOrderWrongFalsely : Prop := fnExactElementOrderRow.holds Tryd.pinned (OpenSpec.ofChange fnExactElementOrderWrong)

/-- 'laws.FnExactFieldInverse': WHATEVER THE INPUT: true; the input reads as it did. -/
def fnExactFieldInverseSpec : ChangeSpec := { name := "fnExactFieldInverse", vars := ["loop.example/g01073/impl.smallPrimes"], fn := fun _ => fun
  | [d1, d2, g1] => { results := [.lit (.bool true)], args := [d1, d2], vars := [g1] }
  | _ => none }
def fnExactFieldInverseRow : OpenClaim := { program := "ytkkiconlcboehaadoor", sum := "8529540a6e28771761821c9cbedbc133018fb011d29821613ef137a1613c0cdd", func := "loop.example/g01073/laws.FnExactFieldInverse", spec := "fnExactFieldInverse", named := ["loop.example/g01073/impl.smallPrimes"], apart := false, laid := [("loop.example/g01073/impl.smallPrimes", laid_loop_example_g01073_impl_smallPrimes)] }
def FnExactFieldInverseSaid : Prop := fnExactFieldInverseRow.holds Tryd.pinned (OpenSpec.ofChange fnExactFieldInverseSpec)

/-- ITS FALSE NEIGHBOUR: 'it returns false'. Refute it at one input. -/
def fnExactFieldInverseWrong : ChangeSpec := { name := "fnExactFieldInverse", vars := ["loop.example/g01073/impl.smallPrimes"], fn := fun _ => fun
  | [d1, d2, g1] => { results := [.lit (.bool false)], args := [d1, d2], vars := [g1] }
  | _ => none }
def FnExactFieldInverseWrongFalsely : Prop := fnExactFieldInverseRow.holds Tryd.pinned (OpenSpec.ofChange fnExactFieldInverseWrong)

/-- 'laws.FnExactFieldPower': WHATEVER THE INPUT: true; the input reads as it did. -/
def fnExactFieldPowerSpec : ChangeSpec := { name := "fnExactFieldPower", vars := ["loop.example/g01073/impl.smallPrimes"], fn := fun _ => fun
  | [d1, d2, d3, g1] => { results := [.lit (.bool true)], args := [d1, d2, d3], vars := [g1] }
  | _ => none }
def fnExactFieldPowerRow : OpenClaim := { program := "ytkkiconlcboehaadoor", sum := "8529540a6e28771761821c9cbedbc133018fb011d29821613ef137a1613c0cdd", func := "loop.example/g01073/laws.FnExactFieldPower", spec := "fnExactFieldPower", named := ["loop.example/g01073/impl.smallPrimes"], apart := false, laid := [("loop.example/g01073/impl.smallPrimes", laid_loop_example_g01073_impl_smallPrimes)] }
def FnExactFieldPowerSaid : Prop := fnExactFieldPowerRow.holds Tryd.pinned (OpenSpec.ofChange fnExactFieldPowerSpec)

/-- ITS FALSE NEIGHBOUR: 'it returns false'. Refute it at one input. -/
def fnExactFieldPowerWrong : ChangeSpec := { name := "fnExactFieldPower", vars := ["loop.example/g01073/impl.smallPrimes"], fn := fun _ => fun
  | [d1, d2, d3, g1] => { results := [.lit (.bool false)], args := [d1, d2, d3], vars := [g1] }
  | _ => none }
def FnExactFieldPowerWrongFalsely : Prop := fnExactFieldPowerRow.holds Tryd.pinned (OpenSpec.ofChange fnExactFieldPowerWrong)

/-- 'laws.FnExactQuadraticRoots': WHATEVER THE INPUT: true; the input reads as it did. -/
def fnExactQuadraticRootsSpec : ChangeSpec := { name := "fnExactQuadraticRoots", vars := ["loop.example/g01073/impl.smallPrimes"], fn := fun _ => fun
  | [d1, d2, d3, d4, g1] => { results := [.lit (.bool true)], args := [d1, d2, d3, d4], vars := [g1] }
  | _ => none }
def fnExactQuadraticRootsRow : OpenClaim := { program := "ytkkiconlcboehaadoor", sum := "8529540a6e28771761821c9cbedbc133018fb011d29821613ef137a1613c0cdd", func := "loop.example/g01073/laws.FnExactQuadraticRoots", spec := "fnExactQuadraticRoots", named := ["loop.example/g01073/impl.smallPrimes"], apart := false, laid := [("loop.example/g01073/impl.smallPrimes", laid_loop_example_g01073_impl_smallPrimes)] }
def FnExactQuadraticRootsSaid : Prop := fnExactQuadraticRootsRow.holds Tryd.pinned (OpenSpec.ofChange fnExactQuadraticRootsSpec)

/-- ITS FALSE NEIGHBOUR: 'it returns false'. Refute it at one input. -/
def fnExactQuadraticRootsWrong : ChangeSpec := { name := "fnExactQuadraticRoots", vars := ["loop.example/g01073/impl.smallPrimes"], fn := fun _ => fun
  | [d1, d2, d3, d4, g1] => { results := [.lit (.bool false)], args := [d1, d2, d3, d4], vars := [g1] }
  | _ => none }
def FnExactQuadraticRootsWrongFalsely : Prop := fnExactQuadraticRootsRow.holds Tryd.pinned (OpenSpec.ofChange fnExactQuadraticRootsWrong)

/- THE SECOND FORM. 'bulk': how many values and letters a reading holds, each counted each time it is reached (what is shared counts as often as it is met; a slice's spare places count too). A statement '..UptoSaid' is the law's where the arguments, and the package variables that the reading takes, are together of bulk at most 1048576: NARROWER than '..Said'. Prove '..Said' where nothing that the law and all that it calls make is longer than what came in: it says more and counts as full. Else prove '..UptoSaid'. A law counts once. -/
mutual
def uptoBulk {H : Type} : DataW H → Nat
  | .lit (.string bytes) => bytes.length + 1
  | .lit _ => 1
  | .nil => 1
  | .ptr d => uptoBulk d + 1
  | .slice elems spare => uptoBulkAll elems + uptoBulkAll spare + 1
  | .agg parts => uptoBulkAll parts + 1
  | .iface _ d => uptoBulk d + 1
  | .map entries => uptoBulkEntries entries + 1
  | .held _ => 1
def uptoBulkAll {H : Type} : List (DataW H) → Nat
  | [] => 0
  | d :: r => uptoBulk d + uptoBulkAll r
def uptoBulkEntries {H : Type} : List (Lit × DataW H) → Nat
  | [] => 0
  | x :: r => uptoBulkEntry x + uptoBulkEntries r
def uptoBulkEntry {H : Type} : Lit × DataW H → Nat
  | (.string bytes, d) => bytes.length + uptoBulk d + 1
  | (_, d) => uptoBulk d + 1
 end
def uptoSmall : (H : Type) → List (DataW H) → Bool := fun _ ds => decide (uptoBulkAll ds ≤ 1048576)
def OpenSpec.upto (s : _root_.Go.ChangeSpec) : _root_.Go.OpenSpec := { _root_.Go.OpenSpec.ofChange s with cond := some uptoSmall }

/-- 'laws.FnExactIsField', WHERE WHAT IT READS IS OF BULK AT MOST 1048576: true; the input reads as it did. -/
def fnExactIsFieldUptoRow : OpenClaim := { program := "ytkkiconlcboehaadoor", sum := "8529540a6e28771761821c9cbedbc133018fb011d29821613ef137a1613c0cdd", func := "loop.example/g01073/laws.FnExactIsField", spec := "fnExactIsField", named := ["loop.example/g01073/impl.smallPrimes"], apart := false, laid := [("loop.example/g01073/impl.smallPrimes", laid_loop_example_g01073_impl_smallPrimes)], narrowed := true }
def FnExactIsFieldUptoSaid : Prop := fnExactIsFieldUptoRow.holds Tryd.pinned (OpenSpec.upto fnExactIsFieldSpec)

/-- 'laws.FnExactFieldAdd', WHERE WHAT IT READS IS OF BULK AT MOST 1048576: true; the input reads as it did. -/
def fnExactFieldAddUptoRow : OpenClaim := { program := "ytkkiconlcboehaadoor", sum := "8529540a6e28771761821c9cbedbc133018fb011d29821613ef137a1613c0cdd", func := "loop.example/g01073/laws.FnExactFieldAdd", spec := "fnExactFieldAdd", named := ["loop.example/g01073/impl.smallPrimes"], apart := false, laid := [("loop.example/g01073/impl.smallPrimes", laid_loop_example_g01073_impl_smallPrimes)], narrowed := true }
def FnExactFieldAddUptoSaid : Prop := fnExactFieldAddUptoRow.holds Tryd.pinned (OpenSpec.upto fnExactFieldAddSpec)

/-- 'laws.FnExactFieldMul', WHERE WHAT IT READS IS OF BULK AT MOST 1048576: true; the input reads as it did. -/
def fnExactFieldMulUptoRow : OpenClaim := { program := "ytkkiconlcboehaadoor", sum := "8529540a6e28771761821c9cbedbc133018fb011d29821613ef137a1613c0cdd", func := "loop.example/g01073/laws.FnExactFieldMul", spec := "fnExactFieldMul", named := ["loop.example/g01073/impl.smallPrimes"], apart := false, laid := [("loop.example/g01073/impl.smallPrimes", laid_loop_example_g01073_impl_smallPrimes)], narrowed := true }
def FnExactFieldMulUptoSaid : Prop := fnExactFieldMulUptoRow.holds Tryd.pinned (OpenSpec.upto fnExactFieldMulSpec)

/-- 'laws.FnExactPrimitiveRoot', WHERE WHAT IT READS IS OF BULK AT MOST 1048576: true; the input reads as it did. -/
def fnExactPrimitiveRootUptoRow : OpenClaim := { program := "ytkkiconlcboehaadoor", sum := "8529540a6e28771761821c9cbedbc133018fb011d29821613ef137a1613c0cdd", func := "loop.example/g01073/laws.FnExactPrimitiveRoot", spec := "fnExactPrimitiveRoot", named := ["loop.example/g01073/impl.smallPrimes"], apart := false, laid := [("loop.example/g01073/impl.smallPrimes", laid_loop_example_g01073_impl_smallPrimes)], narrowed := true }
def FnExactPrimitiveRootUptoSaid : Prop := fnExactPrimitiveRootUptoRow.holds Tryd.pinned (OpenSpec.upto fnExactPrimitiveRootSpec)

/-- 'laws.FnExactSquareRoot', WHERE WHAT IT READS IS OF BULK AT MOST 1048576: true; the input reads as it did. -/
def fnExactSquareRootUptoRow : OpenClaim := { program := "ytkkiconlcboehaadoor", sum := "8529540a6e28771761821c9cbedbc133018fb011d29821613ef137a1613c0cdd", func := "loop.example/g01073/laws.FnExactSquareRoot", spec := "fnExactSquareRoot", named := ["loop.example/g01073/impl.smallPrimes"], apart := false, laid := [("loop.example/g01073/impl.smallPrimes", laid_loop_example_g01073_impl_smallPrimes)], narrowed := true }
def FnExactSquareRootUptoSaid : Prop := fnExactSquareRootUptoRow.holds Tryd.pinned (OpenSpec.upto fnExactSquareRootSpec)

/-- 'laws.FnExactDiscreteLog', WHERE WHAT IT READS IS OF BULK AT MOST 1048576: true; the input reads as it did. -/
def fnExactDiscreteLogUptoRow : OpenClaim := { program := "ytkkiconlcboehaadoor", sum := "8529540a6e28771761821c9cbedbc133018fb011d29821613ef137a1613c0cdd", func := "loop.example/g01073/laws.FnExactDiscreteLog", spec := "fnExactDiscreteLog", named := ["loop.example/g01073/impl.smallPrimes"], apart := false, laid := [("loop.example/g01073/impl.smallPrimes", laid_loop_example_g01073_impl_smallPrimes)], narrowed := true }
def FnExactDiscreteLogUptoSaid : Prop := fnExactDiscreteLogUptoRow.holds Tryd.pinned (OpenSpec.upto fnExactDiscreteLogSpec)

/-- 'laws.FnExactElementOrder', WHERE WHAT IT READS IS OF BULK AT MOST 1048576: true; the input reads as it did. -/
def fnExactElementOrderUptoRow : OpenClaim := { program := "ytkkiconlcboehaadoor", sum := "8529540a6e28771761821c9cbedbc133018fb011d29821613ef137a1613c0cdd", func := "loop.example/g01073/laws.FnExactElementOrder", spec := "fnExactElementOrder", named := ["loop.example/g01073/impl.smallPrimes"], apart := false, laid := [("loop.example/g01073/impl.smallPrimes", laid_loop_example_g01073_impl_smallPrimes)], narrowed := true }
def FnExactElementOrderUptoSaid : Prop := fnExactElementOrderUptoRow.holds Tryd.pinned (OpenSpec.upto fnExactElementOrderSpec)

/-- 'laws.FnExactFieldInverse', WHERE WHAT IT READS IS OF BULK AT MOST 1048576: true; the input reads as it did. -/
def fnExactFieldInverseUptoRow : OpenClaim := { program := "ytkkiconlcboehaadoor", sum := "8529540a6e28771761821c9cbedbc133018fb011d29821613ef137a1613c0cdd", func := "loop.example/g01073/laws.FnExactFieldInverse", spec := "fnExactFieldInverse", named := ["loop.example/g01073/impl.smallPrimes"], apart := false, laid := [("loop.example/g01073/impl.smallPrimes", laid_loop_example_g01073_impl_smallPrimes)], narrowed := true }
def FnExactFieldInverseUptoSaid : Prop := fnExactFieldInverseUptoRow.holds Tryd.pinned (OpenSpec.upto fnExactFieldInverseSpec)

/-- 'laws.FnExactFieldPower', WHERE WHAT IT READS IS OF BULK AT MOST 1048576: true; the input reads as it did. -/
def fnExactFieldPowerUptoRow : OpenClaim := { program := "ytkkiconlcboehaadoor", sum := "8529540a6e28771761821c9cbedbc133018fb011d29821613ef137a1613c0cdd", func := "loop.example/g01073/laws.FnExactFieldPower", spec := "fnExactFieldPower", named := ["loop.example/g01073/impl.smallPrimes"], apart := false, laid := [("loop.example/g01073/impl.smallPrimes", laid_loop_example_g01073_impl_smallPrimes)], narrowed := true }
def FnExactFieldPowerUptoSaid : Prop := fnExactFieldPowerUptoRow.holds Tryd.pinned (OpenSpec.upto fnExactFieldPowerSpec)

/-- 'laws.FnExactQuadraticRoots', WHERE WHAT IT READS IS OF BULK AT MOST 1048576: true; the input reads as it did. -/
def fnExactQuadraticRootsUptoRow : OpenClaim := { program := "ytkkiconlcboehaadoor", sum := "8529540a6e28771761821c9cbedbc133018fb011d29821613ef137a1613c0cdd", func := "loop.example/g01073/laws.FnExactQuadraticRoots", spec := "fnExactQuadraticRoots", named := ["loop.example/g01073/impl.smallPrimes"], apart := false, laid := [("loop.example/g01073/impl.smallPrimes", laid_loop_example_g01073_impl_smallPrimes)], narrowed := true }
def FnExactQuadraticRootsUptoSaid : Prop := fnExactQuadraticRootsUptoRow.holds Tryd.pinned (OpenSpec.upto fnExactQuadraticRootsSpec)

end Rows
end Go.Proofs.YtkkiconlcboehaaDoor
