/-
  DERIVED. GIVEN WITH THE SEED: THE CARDS: each row of YtimjlcnljefbbaaDoorRows.lean that lists a variable, with what it lists TIED to the program's text (the seventh form; the later family's looks); each row that meets fmt, with fmt's text TOLD by the authors' own Lean function (tested against real Go, not proved from fmt's source: count such statements apart). THE CARD IS WHAT COUNTS. Prove the row's statement (the work); the ties are given (YtimjlcnljefbbaaDoorTie.lean); close each card by the builder's one call (the guide's Derived/Test/ToyasCard.lean, 'card_holds'). Laid BY PROGRAM, IN A SANDBOX (cutbox-door.mjs). By AI agents, Wed Nov 11 2026. No macro, syntax, notation, axiom, sorry.
-/
import Derived.Test.YtimjlcnljefbbaaDoorRows
import GoSem.ClaimSeven
namespace Go.Proofs.YtimjlcnljefbbaaDoor
namespace Rows

/-- THE TIED CARD OF 'laws.FnExactMatrixRelation'. -/
def fnExactMatrixRelationCard : Claim7 := { stood := { row := fnExactMatrixRelationRow, standIns := [], harness := (true, "318fef0914c077791d331f8745d2ca7bec162b22d4fd2df369dc6135122a0719"), looks := false }, kinds := [], alts := [], laidByText := true, laidKinds := [.data], laidTests := true, laidLooks := .later }
def FnExactMatrixRelationCardSaid : Prop := Claim7.holds Tryd.pinned (.plain (OpenSpec.ofChange fnExactMatrixRelationSpec)) fnExactMatrixRelationCard

/-- THE TIED CARD OF 'laws.FnExactRowReduce'. -/
def fnExactRowReduceCard : Claim7 := { stood := { row := fnExactRowReduceRow, standIns := [], harness := (true, "318fef0914c077791d331f8745d2ca7bec162b22d4fd2df369dc6135122a0719"), looks := false }, kinds := [], alts := [], laidByText := true, laidKinds := [.data], laidTests := true, laidLooks := .later }
def FnExactRowReduceCardSaid : Prop := Claim7.holds Tryd.pinned (.plain (OpenSpec.ofChange fnExactRowReduceSpec)) fnExactRowReduceCard

/-- THE TIED CARD OF 'laws.FnExactProjectOf'. -/
def fnExactProjectOfCard : Claim7 := { stood := { row := fnExactProjectOfRow, standIns := [], harness := (true, "318fef0914c077791d331f8745d2ca7bec162b22d4fd2df369dc6135122a0719"), looks := false }, kinds := [], alts := [], laidByText := true, laidKinds := [.data], laidTests := true, laidLooks := .later }
def FnExactProjectOfCardSaid : Prop := Claim7.holds Tryd.pinned (.plain (OpenSpec.ofChange fnExactProjectOfSpec)) fnExactProjectOfCard

/-- THE TIED CARD OF 'laws.FnExactSeparatorOf'. -/
def fnExactSeparatorOfCard : Claim7 := { stood := { row := fnExactSeparatorOfRow, standIns := [], harness := (true, "318fef0914c077791d331f8745d2ca7bec162b22d4fd2df369dc6135122a0719"), looks := false }, kinds := [], alts := [], laidByText := true, laidKinds := [.data], laidTests := true, laidLooks := .later }
def FnExactSeparatorOfCardSaid : Prop := Claim7.holds Tryd.pinned (.plain (OpenSpec.ofChange fnExactSeparatorOfSpec)) fnExactSeparatorOfCard

/-- THE TIED CARD OF 'laws.FnExactIsGraph'. -/
def fnExactIsGraphCard : Claim7 := { stood := { row := fnExactIsGraphRow, standIns := [], harness := (true, "318fef0914c077791d331f8745d2ca7bec162b22d4fd2df369dc6135122a0719"), looks := false }, kinds := [], alts := [], laidByText := true, laidKinds := [.data], laidTests := true, laidLooks := .later }
def FnExactIsGraphCardSaid : Prop := Claim7.holds Tryd.pinned (.plain (OpenSpec.ofChange fnExactIsGraphSpec)) fnExactIsGraphCard

/-- THE SECOND FORM's CARD OF 'laws.FnExactMatrixRelation'. -/
def fnExactMatrixRelationUptoCard : Claim7 := { stood := { row := fnExactMatrixRelationUptoRow, standIns := [], harness := (true, "318fef0914c077791d331f8745d2ca7bec162b22d4fd2df369dc6135122a0719"), looks := false }, kinds := [], alts := [], laidByText := true, laidKinds := [.data], laidTests := true, laidLooks := .later }
def FnExactMatrixRelationUptoCardSaid : Prop := Claim7.holds Tryd.pinned (.plain (OpenSpec.upto fnExactMatrixRelationSpec)) fnExactMatrixRelationUptoCard

/-- THE SECOND FORM's CARD OF 'laws.FnExactRowReduce'. -/
def fnExactRowReduceUptoCard : Claim7 := { stood := { row := fnExactRowReduceUptoRow, standIns := [], harness := (true, "318fef0914c077791d331f8745d2ca7bec162b22d4fd2df369dc6135122a0719"), looks := false }, kinds := [], alts := [], laidByText := true, laidKinds := [.data], laidTests := true, laidLooks := .later }
def FnExactRowReduceUptoCardSaid : Prop := Claim7.holds Tryd.pinned (.plain (OpenSpec.upto fnExactRowReduceSpec)) fnExactRowReduceUptoCard

/-- THE SECOND FORM's CARD OF 'laws.FnExactProjectOf'. -/
def fnExactProjectOfUptoCard : Claim7 := { stood := { row := fnExactProjectOfUptoRow, standIns := [], harness := (true, "318fef0914c077791d331f8745d2ca7bec162b22d4fd2df369dc6135122a0719"), looks := false }, kinds := [], alts := [], laidByText := true, laidKinds := [.data], laidTests := true, laidLooks := .later }
def FnExactProjectOfUptoCardSaid : Prop := Claim7.holds Tryd.pinned (.plain (OpenSpec.upto fnExactProjectOfSpec)) fnExactProjectOfUptoCard

/-- THE SECOND FORM's CARD OF 'laws.FnExactSeparatorOf'. -/
def fnExactSeparatorOfUptoCard : Claim7 := { stood := { row := fnExactSeparatorOfUptoRow, standIns := [], harness := (true, "318fef0914c077791d331f8745d2ca7bec162b22d4fd2df369dc6135122a0719"), looks := false }, kinds := [], alts := [], laidByText := true, laidKinds := [.data], laidTests := true, laidLooks := .later }
def FnExactSeparatorOfUptoCardSaid : Prop := Claim7.holds Tryd.pinned (.plain (OpenSpec.upto fnExactSeparatorOfSpec)) fnExactSeparatorOfUptoCard

/-- THE SECOND FORM's CARD OF 'laws.FnExactIsGraph'. -/
def fnExactIsGraphUptoCard : Claim7 := { stood := { row := fnExactIsGraphUptoRow, standIns := [], harness := (true, "318fef0914c077791d331f8745d2ca7bec162b22d4fd2df369dc6135122a0719"), looks := false }, kinds := [], alts := [], laidByText := true, laidKinds := [.data], laidTests := true, laidLooks := .later }
def FnExactIsGraphUptoCardSaid : Prop := Claim7.holds Tryd.pinned (.plain (OpenSpec.upto fnExactIsGraphSpec)) fnExactIsGraphUptoCard
end Rows
end Go.Proofs.YtimjlcnljefbbaaDoor
