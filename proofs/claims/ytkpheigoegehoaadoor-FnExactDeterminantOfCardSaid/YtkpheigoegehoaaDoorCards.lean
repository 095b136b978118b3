/-
  DERIVED. GIVEN WITH THE SEED: THE CARDS: each row of YtkpheigoegehoaaDoorRows.lean that lists a variable, with what it lists TIED to the program's text (the seventh form; the later family's looks); each row that meets fmt, with fmt's text TOLD by the authors' own Lean function (tested against real Go, not proved from fmt's source: count such statements apart). THE CARD IS WHAT COUNTS. Prove the row's statement (the work); the ties are given (YtkpheigoegehoaaDoorTie.lean); close each card by the builder's one call (the guide's Derived/Test/ToyasCard.lean, 'card_holds'). Laid BY PROGRAM, IN A SANDBOX (cutbox-door.mjs). By AI agents, Wed Nov 11 2026. No macro, syntax, notation, axiom, sorry.
-/
import Derived.Test.YtkpheigoegehoaaDoorRows
import GoSem.ClaimSeven
namespace Go.Proofs.YtkpheigoegehoaaDoor
namespace Rows

/-- THE TIED CARD OF 'laws.FnExactMatrixRelation'. -/
def fnExactMatrixRelationCard : Claim7 := { stood := { row := fnExactMatrixRelationRow, standIns := [], harness := (true, "e9d2d4a609bab89a4f97be77b35fb6418a6b1b4659ff3cf812d581d6d8ba37b2"), looks := false }, kinds := [], alts := [], laidByText := true, laidKinds := [.data], laidTests := true, laidLooks := .later }
def FnExactMatrixRelationCardSaid : Prop := Claim7.holds Tryd.pinned (.plain (OpenSpec.ofChange fnExactMatrixRelationSpec)) fnExactMatrixRelationCard

/-- THE TIED CARD OF 'laws.FnExactDeterminantOf'. -/
def fnExactDeterminantOfCard : Claim7 := { stood := { row := fnExactDeterminantOfRow, standIns := [], harness := (true, "e9d2d4a609bab89a4f97be77b35fb6418a6b1b4659ff3cf812d581d6d8ba37b2"), looks := false }, kinds := [], alts := [], laidByText := true, laidKinds := [.data], laidTests := true, laidLooks := .later }
def FnExactDeterminantOfCardSaid : Prop := Claim7.holds Tryd.pinned (.plain (OpenSpec.ofChange fnExactDeterminantOfSpec)) fnExactDeterminantOfCard

/-- THE TIED CARD OF 'laws.FnExactRowReduce'. -/
def fnExactRowReduceCard : Claim7 := { stood := { row := fnExactRowReduceRow, standIns := [], harness := (true, "e9d2d4a609bab89a4f97be77b35fb6418a6b1b4659ff3cf812d581d6d8ba37b2"), looks := false }, kinds := [], alts := [], laidByText := true, laidKinds := [.data], laidTests := true, laidLooks := .later }
def FnExactRowReduceCardSaid : Prop := Claim7.holds Tryd.pinned (.plain (OpenSpec.ofChange fnExactRowReduceSpec)) fnExactRowReduceCard

/-- THE TIED CARD OF 'laws.FnExactSpanOf'. -/
def fnExactSpanOfCard : Claim7 := { stood := { row := fnExactSpanOfRow, standIns := [], harness := (true, "e9d2d4a609bab89a4f97be77b35fb6418a6b1b4659ff3cf812d581d6d8ba37b2"), looks := false }, kinds := [], alts := [], laidByText := true, laidKinds := [.data], laidTests := true, laidLooks := .later }
def FnExactSpanOfCardSaid : Prop := Claim7.holds Tryd.pinned (.plain (OpenSpec.ofChange fnExactSpanOfSpec)) fnExactSpanOfCard

/-- THE TIED CARD OF 'laws.FnExactIsSpace'. -/
def fnExactIsSpaceCard : Claim7 := { stood := { row := fnExactIsSpaceRow, standIns := [], harness := (true, "e9d2d4a609bab89a4f97be77b35fb6418a6b1b4659ff3cf812d581d6d8ba37b2"), looks := false }, kinds := [], alts := [], laidByText := true, laidKinds := [.data], laidTests := true, laidLooks := .later }
def FnExactIsSpaceCardSaid : Prop := Claim7.holds Tryd.pinned (.plain (OpenSpec.ofChange fnExactIsSpaceSpec)) fnExactIsSpaceCard

/-- THE TIED CARD OF 'laws.FnExactRelationFrom'. -/
def fnExactRelationFromCard : Claim7 := { stood := { row := fnExactRelationFromRow, standIns := [], harness := (true, "e9d2d4a609bab89a4f97be77b35fb6418a6b1b4659ff3cf812d581d6d8ba37b2"), looks := false }, kinds := [], alts := [], laidByText := true, laidKinds := [.data], laidTests := true, laidLooks := .later }
def FnExactRelationFromCardSaid : Prop := Claim7.holds Tryd.pinned (.plain (OpenSpec.ofChange fnExactRelationFromSpec)) fnExactRelationFromCard

/-- THE TIED CARD OF 'laws.FnExactIsRelation'. -/
def fnExactIsRelationCard : Claim7 := { stood := { row := fnExactIsRelationRow, standIns := [], harness := (true, "e9d2d4a609bab89a4f97be77b35fb6418a6b1b4659ff3cf812d581d6d8ba37b2"), looks := false }, kinds := [], alts := [], laidByText := true, laidKinds := [.data], laidTests := true, laidLooks := .later }
def FnExactIsRelationCardSaid : Prop := Claim7.holds Tryd.pinned (.plain (OpenSpec.ofChange fnExactIsRelationSpec)) fnExactIsRelationCard

/-- THE TIED CARD OF 'laws.FnExactSumOf'. -/
def fnExactSumOfCard : Claim7 := { stood := { row := fnExactSumOfRow, standIns := [], harness := (true, "e9d2d4a609bab89a4f97be77b35fb6418a6b1b4659ff3cf812d581d6d8ba37b2"), looks := false }, kinds := [], alts := [], laidByText := true, laidKinds := [.data], laidTests := true, laidLooks := .later }
def FnExactSumOfCardSaid : Prop := Claim7.holds Tryd.pinned (.plain (OpenSpec.ofChange fnExactSumOfSpec)) fnExactSumOfCard

/-- THE TIED CARD OF 'laws.FnExactKernelOf'. -/
def fnExactKernelOfCard : Claim7 := { stood := { row := fnExactKernelOfRow, standIns := [], harness := (true, "e9d2d4a609bab89a4f97be77b35fb6418a6b1b4659ff3cf812d581d6d8ba37b2"), looks := false }, kinds := [], alts := [], laidByText := true, laidKinds := [.data], laidTests := true, laidLooks := .later }
def FnExactKernelOfCardSaid : Prop := Claim7.holds Tryd.pinned (.plain (OpenSpec.ofChange fnExactKernelOfSpec)) fnExactKernelOfCard

/-- THE TIED CARD OF 'laws.FnExactProjectOf'. -/
def fnExactProjectOfCard : Claim7 := { stood := { row := fnExactProjectOfRow, standIns := [], harness := (true, "e9d2d4a609bab89a4f97be77b35fb6418a6b1b4659ff3cf812d581d6d8ba37b2"), looks := false }, kinds := [], alts := [], laidByText := true, laidKinds := [.data], laidTests := true, laidLooks := .later }
def FnExactProjectOfCardSaid : Prop := Claim7.holds Tryd.pinned (.plain (OpenSpec.ofChange fnExactProjectOfSpec)) fnExactProjectOfCard

/-- THE TIED CARD OF 'laws.FnExactOrthogonalOf'. -/
def fnExactOrthogonalOfCard : Claim7 := { stood := { row := fnExactOrthogonalOfRow, standIns := [], harness := (true, "e9d2d4a609bab89a4f97be77b35fb6418a6b1b4659ff3cf812d581d6d8ba37b2"), looks := false }, kinds := [], alts := [], laidByText := true, laidKinds := [.data], laidTests := true, laidLooks := .later }
def FnExactOrthogonalOfCardSaid : Prop := Claim7.holds Tryd.pinned (.plain (OpenSpec.ofChange fnExactOrthogonalOfSpec)) fnExactOrthogonalOfCard

/-- THE TIED CARD OF 'laws.FnExactMeetOf'. -/
def fnExactMeetOfCard : Claim7 := { stood := { row := fnExactMeetOfRow, standIns := [], harness := (true, "e9d2d4a609bab89a4f97be77b35fb6418a6b1b4659ff3cf812d581d6d8ba37b2"), looks := false }, kinds := [], alts := [], laidByText := true, laidKinds := [.data], laidTests := true, laidLooks := .later }
def FnExactMeetOfCardSaid : Prop := Claim7.holds Tryd.pinned (.plain (OpenSpec.ofChange fnExactMeetOfSpec)) fnExactMeetOfCard

/-- THE TIED CARD OF 'laws.FnExactImageOf'. -/
def fnExactImageOfCard : Claim7 := { stood := { row := fnExactImageOfRow, standIns := [], harness := (true, "e9d2d4a609bab89a4f97be77b35fb6418a6b1b4659ff3cf812d581d6d8ba37b2"), looks := false }, kinds := [], alts := [], laidByText := true, laidKinds := [.data], laidTests := true, laidLooks := .later }
def FnExactImageOfCardSaid : Prop := Claim7.holds Tryd.pinned (.plain (OpenSpec.ofChange fnExactImageOfSpec)) fnExactImageOfCard

/-- THE TIED CARD OF 'laws.FnExactSeparatorOf'. -/
def fnExactSeparatorOfCard : Claim7 := { stood := { row := fnExactSeparatorOfRow, standIns := [], harness := (true, "e9d2d4a609bab89a4f97be77b35fb6418a6b1b4659ff3cf812d581d6d8ba37b2"), looks := false }, kinds := [], alts := [], laidByText := true, laidKinds := [.data], laidTests := true, laidLooks := .later }
def FnExactSeparatorOfCardSaid : Prop := Claim7.holds Tryd.pinned (.plain (OpenSpec.ofChange fnExactSeparatorOfSpec)) fnExactSeparatorOfCard

/-- THE TIED CARD OF 'laws.FnExactPreimageOf'. -/
def fnExactPreimageOfCard : Claim7 := { stood := { row := fnExactPreimageOfRow, standIns := [], harness := (true, "e9d2d4a609bab89a4f97be77b35fb6418a6b1b4659ff3cf812d581d6d8ba37b2"), looks := false }, kinds := [], alts := [], laidByText := true, laidKinds := [.data], laidTests := true, laidLooks := .later }
def FnExactPreimageOfCardSaid : Prop := Claim7.holds Tryd.pinned (.plain (OpenSpec.ofChange fnExactPreimageOfSpec)) fnExactPreimageOfCard

/-- THE SECOND FORM's CARD OF 'laws.FnExactMatrixRelation'. -/
def fnExactMatrixRelationUptoCard : Claim7 := { stood := { row := fnExactMatrixRelationUptoRow, standIns := [], harness := (true, "e9d2d4a609bab89a4f97be77b35fb6418a6b1b4659ff3cf812d581d6d8ba37b2"), looks := false }, kinds := [], alts := [], laidByText := true, laidKinds := [.data], laidTests := true, laidLooks := .later }
def FnExactMatrixRelationUptoCardSaid : Prop := Claim7.holds Tryd.pinned (.plain (OpenSpec.upto fnExactMatrixRelationSpec)) fnExactMatrixRelationUptoCard

/-- THE SECOND FORM's CARD OF 'laws.FnExactDeterminantOf'. -/
def fnExactDeterminantOfUptoCard : Claim7 := { stood := { row := fnExactDeterminantOfUptoRow, standIns := [], harness := (true, "e9d2d4a609bab89a4f97be77b35fb6418a6b1b4659ff3cf812d581d6d8ba37b2"), looks := false }, kinds := [], alts := [], laidByText := true, laidKinds := [.data], laidTests := true, laidLooks := .later }
def FnExactDeterminantOfUptoCardSaid : Prop := Claim7.holds Tryd.pinned (.plain (OpenSpec.upto fnExactDeterminantOfSpec)) fnExactDeterminantOfUptoCard

/-- THE SECOND FORM's CARD OF 'laws.FnExactRowReduce'. -/
def fnExactRowReduceUptoCard : Claim7 := { stood := { row := fnExactRowReduceUptoRow, standIns := [], harness := (true, "e9d2d4a609bab89a4f97be77b35fb6418a6b1b4659ff3cf812d581d6d8ba37b2"), looks := false }, kinds := [], alts := [], laidByText := true, laidKinds := [.data], laidTests := true, laidLooks := .later }
def FnExactRowReduceUptoCardSaid : Prop := Claim7.holds Tryd.pinned (.plain (OpenSpec.upto fnExactRowReduceSpec)) fnExactRowReduceUptoCard

/-- THE SECOND FORM's CARD OF 'laws.FnExactSpanOf'. -/
def fnExactSpanOfUptoCard : Claim7 := { stood := { row := fnExactSpanOfUptoRow, standIns := [], harness := (true, "e9d2d4a609bab89a4f97be77b35fb6418a6b1b4659ff3cf812d581d6d8ba37b2"), looks := false }, kinds := [], alts := [], laidByText := true, laidKinds := [.data], laidTests := true, laidLooks := .later }
def FnExactSpanOfUptoCardSaid : Prop := Claim7.holds Tryd.pinned (.plain (OpenSpec.upto fnExactSpanOfSpec)) fnExactSpanOfUptoCard

/-- THE SECOND FORM's CARD OF 'laws.FnExactIsSpace'. -/
def fnExactIsSpaceUptoCard : Claim7 := { stood := { row := fnExactIsSpaceUptoRow, standIns := [], harness := (true, "e9d2d4a609bab89a4f97be77b35fb6418a6b1b4659ff3cf812d581d6d8ba37b2"), looks := false }, kinds := [], alts := [], laidByText := true, laidKinds := [.data], laidTests := true, laidLooks := .later }
def FnExactIsSpaceUptoCardSaid : Prop := Claim7.holds Tryd.pinned (.plain (OpenSpec.upto fnExactIsSpaceSpec)) fnExactIsSpaceUptoCard

/-- THE SECOND FORM's CARD OF 'laws.FnExactRelationFrom'. -/
def fnExactRelationFromUptoCard : Claim7 := { stood := { row := fnExactRelationFromUptoRow, standIns := [], harness := (true, "e9d2d4a609bab89a4f97be77b35fb6418a6b1b4659ff3cf812d581d6d8ba37b2"), looks := false }, kinds := [], alts := [], laidByText := true, laidKinds := [.data], laidTests := true, laidLooks := .later }
def FnExactRelationFromUptoCardSaid : Prop := Claim7.holds Tryd.pinned (.plain (OpenSpec.upto fnExactRelationFromSpec)) fnExactRelationFromUptoCard

/-- THE SECOND FORM's CARD OF 'laws.FnExactIsRelation'. -/
def fnExactIsRelationUptoCard : Claim7 := { stood := { row := fnExactIsRelationUptoRow, standIns := [], harness := (true, "e9d2d4a609bab89a4f97be77b35fb6418a6b1b4659ff3cf812d581d6d8ba37b2"), looks := false }, kinds := [], alts := [], laidByText := true, laidKinds := [.data], laidTests := true, laidLooks := .later }
def FnExactIsRelationUptoCardSaid : Prop := Claim7.holds Tryd.pinned (.plain (OpenSpec.upto fnExactIsRelationSpec)) fnExactIsRelationUptoCard

/-- THE SECOND FORM's CARD OF 'laws.FnExactSumOf'. -/
def fnExactSumOfUptoCard : Claim7 := { stood := { row := fnExactSumOfUptoRow, standIns := [], harness := (true, "e9d2d4a609bab89a4f97be77b35fb6418a6b1b4659ff3cf812d581d6d8ba37b2"), looks := false }, kinds := [], alts := [], laidByText := true, laidKinds := [.data], laidTests := true, laidLooks := .later }
def FnExactSumOfUptoCardSaid : Prop := Claim7.holds Tryd.pinned (.plain (OpenSpec.upto fnExactSumOfSpec)) fnExactSumOfUptoCard

/-- THE SECOND FORM's CARD OF 'laws.FnExactKernelOf'. -/
def fnExactKernelOfUptoCard : Claim7 := { stood := { row := fnExactKernelOfUptoRow, standIns := [], harness := (true, "e9d2d4a609bab89a4f97be77b35fb6418a6b1b4659ff3cf812d581d6d8ba37b2"), looks := false }, kinds := [], alts := [], laidByText := true, laidKinds := [.data], laidTests := true, laidLooks := .later }
def FnExactKernelOfUptoCardSaid : Prop := Claim7.holds Tryd.pinned (.plain (OpenSpec.upto fnExactKernelOfSpec)) fnExactKernelOfUptoCard

/-- THE SECOND FORM's CARD OF 'laws.FnExactProjectOf'. -/
def fnExactProjectOfUptoCard : Claim7 := { stood := { row := fnExactProjectOfUptoRow, standIns := [], harness := (true, "e9d2d4a609bab89a4f97be77b35fb6418a6b1b4659ff3cf812d581d6d8ba37b2"), looks := false }, kinds := [], alts := [], laidByText := true, laidKinds := [.data], laidTests := true, laidLooks := .later }
def FnExactProjectOfUptoCardSaid : Prop := Claim7.holds Tryd.pinned (.plain (OpenSpec.upto fnExactProjectOfSpec)) fnExactProjectOfUptoCard

/-- THE SECOND FORM's CARD OF 'laws.FnExactOrthogonalOf'. -/
def fnExactOrthogonalOfUptoCard : Claim7 := { stood := { row := fnExactOrthogonalOfUptoRow, standIns := [], harness := (true, "e9d2d4a609bab89a4f97be77b35fb6418a6b1b4659ff3cf812d581d6d8ba37b2"), looks := false }, kinds := [], alts := [], laidByText := true, laidKinds := [.data], laidTests := true, laidLooks := .later }
def FnExactOrthogonalOfUptoCardSaid : Prop := Claim7.holds Tryd.pinned (.plain (OpenSpec.upto fnExactOrthogonalOfSpec)) fnExactOrthogonalOfUptoCard

/-- THE SECOND FORM's CARD OF 'laws.FnExactMeetOf'. -/
def fnExactMeetOfUptoCard : Claim7 := { stood := { row := fnExactMeetOfUptoRow, standIns := [], harness := (true, "e9d2d4a609bab89a4f97be77b35fb6418a6b1b4659ff3cf812d581d6d8ba37b2"), looks := false }, kinds := [], alts := [], laidByText := true, laidKinds := [.data], laidTests := true, laidLooks := .later }
def FnExactMeetOfUptoCardSaid : Prop := Claim7.holds Tryd.pinned (.plain (OpenSpec.upto fnExactMeetOfSpec)) fnExactMeetOfUptoCard

/-- THE SECOND FORM's CARD OF 'laws.FnExactImageOf'. -/
def fnExactImageOfUptoCard : Claim7 := { stood := { row := fnExactImageOfUptoRow, standIns := [], harness := (true, "e9d2d4a609bab89a4f97be77b35fb6418a6b1b4659ff3cf812d581d6d8ba37b2"), looks := false }, kinds := [], alts := [], laidByText := true, laidKinds := [.data], laidTests := true, laidLooks := .later }
def FnExactImageOfUptoCardSaid : Prop := Claim7.holds Tryd.pinned (.plain (OpenSpec.upto fnExactImageOfSpec)) fnExactImageOfUptoCard

/-- THE SECOND FORM's CARD OF 'laws.FnExactSeparatorOf'. -/
def fnExactSeparatorOfUptoCard : Claim7 := { stood := { row := fnExactSeparatorOfUptoRow, standIns := [], harness := (true, "e9d2d4a609bab89a4f97be77b35fb6418a6b1b4659ff3cf812d581d6d8ba37b2"), looks := false }, kinds := [], alts := [], laidByText := true, laidKinds := [.data], laidTests := true, laidLooks := .later }
def FnExactSeparatorOfUptoCardSaid : Prop := Claim7.holds Tryd.pinned (.plain (OpenSpec.upto fnExactSeparatorOfSpec)) fnExactSeparatorOfUptoCard

/-- THE SECOND FORM's CARD OF 'laws.FnExactPreimageOf'. -/
def fnExactPreimageOfUptoCard : Claim7 := { stood := { row := fnExactPreimageOfUptoRow, standIns := [], harness := (true, "e9d2d4a609bab89a4f97be77b35fb6418a6b1b4659ff3cf812d581d6d8ba37b2"), looks := false }, kinds := [], alts := [], laidByText := true, laidKinds := [.data], laidTests := true, laidLooks := .later }
def FnExactPreimageOfUptoCardSaid : Prop := Claim7.holds Tryd.pinned (.plain (OpenSpec.upto fnExactPreimageOfSpec)) fnExactPreimageOfUptoCard
end Rows
end Go.Proofs.YtkpheigoegehoaaDoor
