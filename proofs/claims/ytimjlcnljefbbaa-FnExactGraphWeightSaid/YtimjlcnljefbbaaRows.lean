/-
  No cell of these rows narrows 'for every input' (looked for: loops, veiled, ifaces, maps, wideKeys, modest, calm, conditions, laid).
  DERIVED. THE GIVEN ROWS OF THIS SEAT. 6 by the template 'for every input the law returns true; each argument reads behind the call as it read before'; 0 by the template 'total and deterministic' (their statements: YtimjlcnljefbbaaTotals.lean).
  GIVEN WITH THE SEED: the statements are not yours to turn. If you find one false, say at which input.
  Laid BY PROGRAM, IN A SANDBOX (cutbox-rows.mjs): the forced cells as the released guide's own fill.sh prints them over the translation 087211b67234f901… (all of the seat's roots in one cut). By AI agents, Wed Nov 11 2026. No macro, syntax, notation, axiom, sorry.
-/
import Derived.Test.YtimjlcnljefbbaaChecked
import GoSem.Claim
import GoSem.ClaimJoined
import GoSem.ClaimMapViews
import Derived.JoinedTies
import Derived.KernelRfl
namespace Go.Proofs.Ytimjlcnljefbbaa
/- THE CELL 'sum', in the pinned program and in every row, IS THE sha256 OF THE DUMP (.gsa) THAT YtimjlcnljefbbaaProg.lean LOADS. Nothing in Lean hashes anything: it is a label: what it is worth is what the hold of that sum in a sandbox is worth. -/
noncomputable def Try.pinned : Pinned := { name := "ytimjlcnljefbbaa", sum := "087211b67234f901b0c0b959b68f1613e5d6d0ea224b5f8ad928e6d0f5547cff", checked := Try.checked }
namespace Rows
def none {H : Type} : Left H := { results := [], args := [] }

/-- 'laws.FnExactIdentityMatrix': WHATEVER THE INPUT: true; the input reads as it did. -/
def fnExactIdentityMatrixSpec : ChangeSpec := { name := "fnExactIdentityMatrix", fn := fun _ => fun
  | [d] => { results := [.lit (.bool true)], args := [d] }
  | _ => none }
def fnExactIdentityMatrixRow : OpenClaim := { program := "ytimjlcnljefbbaa", sum := "087211b67234f901b0c0b959b68f1613e5d6d0ea224b5f8ad928e6d0f5547cff", func := "loop.example/g01073/laws.FnExactIdentityMatrix", spec := "fnExactIdentityMatrix", apart := false }
def FnExactIdentityMatrixSaid : Prop := fnExactIdentityMatrixRow.holds Try.pinned (OpenSpec.ofChange fnExactIdentityMatrixSpec)

/-- ITS FALSE NEIGHBOUR: 'it returns false'. Refute it at one input. -/
def fnExactIdentityMatrixWrong : ChangeSpec := { name := "fnExactIdentityMatrix", fn := fun _ => fun
  | [d] => { results := [.lit (.bool false)], args := [d] }
  | _ => none }
def FnExactIdentityMatrixWrongFalsely : Prop := fnExactIdentityMatrixRow.holds Try.pinned (OpenSpec.ofChange fnExactIdentityMatrixWrong)

/-- 'laws.FnExactIdentityRelation': WHATEVER THE INPUT: true; the input reads as it did. -/
def fnExactIdentityRelationSpec : ChangeSpec := { name := "fnExactIdentityRelation", fn := fun _ => fun
  | [d] => { results := [.lit (.bool true)], args := [d] }
  | _ => none }
def fnExactIdentityRelationRow : OpenClaim := { program := "ytimjlcnljefbbaa", sum := "087211b67234f901b0c0b959b68f1613e5d6d0ea224b5f8ad928e6d0f5547cff", func := "loop.example/g01073/laws.FnExactIdentityRelation", spec := "fnExactIdentityRelation", apart := false }
def FnExactIdentityRelationSaid : Prop := fnExactIdentityRelationRow.holds Try.pinned (OpenSpec.ofChange fnExactIdentityRelationSpec)

/-- ITS FALSE NEIGHBOUR: 'it returns false'. Refute it at one input. -/
def fnExactIdentityRelationWrong : ChangeSpec := { name := "fnExactIdentityRelation", fn := fun _ => fun
  | [d] => { results := [.lit (.bool false)], args := [d] }
  | _ => none }
def FnExactIdentityRelationWrongFalsely : Prop := fnExactIdentityRelationRow.holds Try.pinned (OpenSpec.ofChange fnExactIdentityRelationWrong)

/-- 'laws.FnExactThroughMatch': WHATEVER THE INPUT: true; the input reads as it did. -/
def fnExactThroughMatchSpec : ChangeSpec := { name := "fnExactThroughMatch", fn := fun _ => fun
  | [d1, d2] => { results := [.lit (.bool true)], args := [d1, d2] }
  | _ => none }
def fnExactThroughMatchRow : OpenClaim := { program := "ytimjlcnljefbbaa", sum := "087211b67234f901b0c0b959b68f1613e5d6d0ea224b5f8ad928e6d0f5547cff", func := "loop.example/g01073/laws.FnExactThroughMatch", spec := "fnExactThroughMatch", apart := false }
def FnExactThroughMatchSaid : Prop := fnExactThroughMatchRow.holds Try.pinned (OpenSpec.ofChange fnExactThroughMatchSpec)

/-- ITS FALSE NEIGHBOUR: 'it returns false'. Refute it at one input. -/
def fnExactThroughMatchWrong : ChangeSpec := { name := "fnExactThroughMatch", fn := fun _ => fun
  | [d1, d2] => { results := [.lit (.bool false)], args := [d1, d2] }
  | _ => none }
def FnExactThroughMatchWrongFalsely : Prop := fnExactThroughMatchRow.holds Try.pinned (OpenSpec.ofChange fnExactThroughMatchWrong)

/-- 'laws.FnExactIdentityGraph': WHATEVER THE INPUT: true; the input reads as it did. -/
def fnExactIdentityGraphSpec : ChangeSpec := { name := "fnExactIdentityGraph", fn := fun _ => fun
  | [d] => { results := [.lit (.bool true)], args := [d] }
  | _ => none }
def fnExactIdentityGraphRow : OpenClaim := { program := "ytimjlcnljefbbaa", sum := "087211b67234f901b0c0b959b68f1613e5d6d0ea224b5f8ad928e6d0f5547cff", func := "loop.example/g01073/laws.FnExactIdentityGraph", spec := "fnExactIdentityGraph", apart := false }
def FnExactIdentityGraphSaid : Prop := fnExactIdentityGraphRow.holds Try.pinned (OpenSpec.ofChange fnExactIdentityGraphSpec)

/-- ITS FALSE NEIGHBOUR: 'it returns false'. Refute it at one input. -/
def fnExactIdentityGraphWrong : ChangeSpec := { name := "fnExactIdentityGraph", fn := fun _ => fun
  | [d] => { results := [.lit (.bool false)], args := [d] }
  | _ => none }
def FnExactIdentityGraphWrongFalsely : Prop := fnExactIdentityGraphRow.holds Try.pinned (OpenSpec.ofChange fnExactIdentityGraphWrong)

/-- 'laws.FnExactGraphWeight': WHATEVER THE INPUT: true; the input reads as it did. -/
def fnExactGraphWeightSpec : ChangeSpec := { name := "fnExactGraphWeight", fn := fun _ => fun
  | [d1, d2] => { results := [.lit (.bool true)], args := [d1, d2] }
  | _ => none }
def fnExactGraphWeightRow : OpenClaim := { program := "ytimjlcnljefbbaa", sum := "087211b67234f901b0c0b959b68f1613e5d6d0ea224b5f8ad928e6d0f5547cff", func := "loop.example/g01073/laws.FnExactGraphWeight", spec := "fnExactGraphWeight", unfollowed := true, recurses := true, apart := false }
def FnExactGraphWeightSaid : Prop := fnExactGraphWeightRow.holds Try.pinned (OpenSpec.ofChange fnExactGraphWeightSpec)

/-- ITS FALSE NEIGHBOUR: 'it returns false'. Refute it at one input. -/
def fnExactGraphWeightWrong : ChangeSpec := { name := "fnExactGraphWeight", fn := fun _ => fun
  | [d1, d2] => { results := [.lit (.bool false)], args := [d1, d2] }
  | _ => none }
def FnExactGraphWeightWrongFalsely : Prop := fnExactGraphWeightRow.holds Try.pinned (OpenSpec.ofChange fnExactGraphWeightWrong)

/-- 'laws.FnExactIsMonogamous': WHATEVER THE INPUT: true; the input reads as it did. -/
def fnExactIsMonogamousSpec : ChangeSpec := { name := "fnExactIsMonogamous", fn := fun _ => fun
  | [d] => { results := [.lit (.bool true)], args := [d] }
  | _ => none }
def fnExactIsMonogamousRow : OpenClaim := { program := "ytimjlcnljefbbaa", sum := "087211b67234f901b0c0b959b68f1613e5d6d0ea224b5f8ad928e6d0f5547cff", func := "loop.example/g01073/laws.FnExactIsMonogamous", spec := "fnExactIsMonogamous", unfollowed := true, recurses := true, apart := false }
def FnExactIsMonogamousSaid : Prop := fnExactIsMonogamousRow.holds Try.pinned (OpenSpec.ofChange fnExactIsMonogamousSpec)

/-- ITS FALSE NEIGHBOUR: 'it returns false'. Refute it at one input. -/
def fnExactIsMonogamousWrong : ChangeSpec := { name := "fnExactIsMonogamous", fn := fun _ => fun
  | [d] => { results := [.lit (.bool false)], args := [d] }
  | _ => none }
def FnExactIsMonogamousWrongFalsely : Prop := fnExactIsMonogamousRow.holds Try.pinned (OpenSpec.ofChange fnExactIsMonogamousWrong)

/- THE SECOND FORM. 'bulk': how many values and letters a reading holds, each counted each time it is reached (what is shared counts as often as it is met; a slice's spare places count too). A statement '..UptoSaid' is the law's where the arguments, and the package variables that the reading takes, are together of bulk at most 1048576: NARROWER than '..Said'. Prove '..Said' where nothing that the law and all that it calls make is longer than what came in: it says more and counts as full. Else prove '..UptoSaid'. A law counts once. -/
mutual
def uptoBulk {H : Type} : DataW H → Nat
  | .lit (.string bytes) => bytes.length + 1
  | .lit _ => 1
  | .nil => 1
  | .ptr d => uptoBulk d + 1
  | .slice elems spare => uptoBulkAll elems + uptoBulkAll spare + 1
  | .agg parts => uptoBulkAll parts + 1
  | .iface _ d => uptoBulk d + 1
  | .map entries => uptoBulkEntries entries + 1
  | .held _ => 1
def uptoBulkAll {H : Type} : List (DataW H) → Nat
  | [] => 0
  | d :: r => uptoBulk d + uptoBulkAll r
def uptoBulkEntries {H : Type} : List (Lit × DataW H) → Nat
  | [] => 0
  | x :: r => uptoBulkEntry x + uptoBulkEntries r
def uptoBulkEntry {H : Type} : Lit × DataW H → Nat
  | (.string bytes, d) => bytes.length + uptoBulk d + 1
  | (_, d) => uptoBulk d + 1
 end
def uptoSmall : (H : Type) → List (DataW H) → Bool := fun _ ds => decide (uptoBulkAll ds ≤ 1048576)
def OpenSpec.upto (s : _root_.Go.ChangeSpec) : _root_.Go.OpenSpec := { _root_.Go.OpenSpec.ofChange s with cond := some uptoSmall }

/-- 'laws.FnExactIdentityMatrix', WHERE WHAT IT READS IS OF BULK AT MOST 1048576: true; the input reads as it did. -/
def fnExactIdentityMatrixUptoRow : OpenClaim := { program := "ytimjlcnljefbbaa", sum := "087211b67234f901b0c0b959b68f1613e5d6d0ea224b5f8ad928e6d0f5547cff", func := "loop.example/g01073/laws.FnExactIdentityMatrix", spec := "fnExactIdentityMatrix", apart := false, narrowed := true }
def FnExactIdentityMatrixUptoSaid : Prop := fnExactIdentityMatrixUptoRow.holds Try.pinned (OpenSpec.upto fnExactIdentityMatrixSpec)

/-- 'laws.FnExactIdentityRelation', WHERE WHAT IT READS IS OF BULK AT MOST 1048576: true; the input reads as it did. -/
def fnExactIdentityRelationUptoRow : OpenClaim := { program := "ytimjlcnljefbbaa", sum := "087211b67234f901b0c0b959b68f1613e5d6d0ea224b5f8ad928e6d0f5547cff", func := "loop.example/g01073/laws.FnExactIdentityRelation", spec := "fnExactIdentityRelation", apart := false, narrowed := true }
def FnExactIdentityRelationUptoSaid : Prop := fnExactIdentityRelationUptoRow.holds Try.pinned (OpenSpec.upto fnExactIdentityRelationSpec)

/-- 'laws.FnExactThroughMatch', WHERE WHAT IT READS IS OF BULK AT MOST 1048576: true; the input reads as it did. -/
def fnExactThroughMatchUptoRow : OpenClaim := { program := "ytimjlcnljefbbaa", sum := "087211b67234f901b0c0b959b68f1613e5d6d0ea224b5f8ad928e6d0f5547cff", func := "loop.example/g01073/laws.FnExactThroughMatch", spec := "fnExactThroughMatch", apart := false, narrowed := true }
def FnExactThroughMatchUptoSaid : Prop := fnExactThroughMatchUptoRow.holds Try.pinned (OpenSpec.upto fnExactThroughMatchSpec)

/-- 'laws.FnExactIdentityGraph', WHERE WHAT IT READS IS OF BULK AT MOST 1048576: true; the input reads as it did. -/
def fnExactIdentityGraphUptoRow : OpenClaim := { program := "ytimjlcnljefbbaa", sum := "087211b67234f901b0c0b959b68f1613e5d6d0ea224b5f8ad928e6d0f5547cff", func := "loop.example/g01073/laws.FnExactIdentityGraph", spec := "fnExactIdentityGraph", apart := false, narrowed := true }
def FnExactIdentityGraphUptoSaid : Prop := fnExactIdentityGraphUptoRow.holds Try.pinned (OpenSpec.upto fnExactIdentityGraphSpec)

/-- 'laws.FnExactGraphWeight', WHERE WHAT IT READS IS OF BULK AT MOST 1048576: true; the input reads as it did. -/
def fnExactGraphWeightUptoRow : OpenClaim := { program := "ytimjlcnljefbbaa", sum := "087211b67234f901b0c0b959b68f1613e5d6d0ea224b5f8ad928e6d0f5547cff", func := "loop.example/g01073/laws.FnExactGraphWeight", spec := "fnExactGraphWeight", unfollowed := true, recurses := true, apart := false, narrowed := true }
def FnExactGraphWeightUptoSaid : Prop := fnExactGraphWeightUptoRow.holds Try.pinned (OpenSpec.upto fnExactGraphWeightSpec)

/-- 'laws.FnExactIsMonogamous', WHERE WHAT IT READS IS OF BULK AT MOST 1048576: true; the input reads as it did. -/
def fnExactIsMonogamousUptoRow : OpenClaim := { program := "ytimjlcnljefbbaa", sum := "087211b67234f901b0c0b959b68f1613e5d6d0ea224b5f8ad928e6d0f5547cff", func := "loop.example/g01073/laws.FnExactIsMonogamous", spec := "fnExactIsMonogamous", unfollowed := true, recurses := true, apart := false, narrowed := true }
def FnExactIsMonogamousUptoSaid : Prop := fnExactIsMonogamousUptoRow.holds Try.pinned (OpenSpec.upto fnExactIsMonogamousSpec)

end Rows
end Go.Proofs.Ytimjlcnljefbbaa
