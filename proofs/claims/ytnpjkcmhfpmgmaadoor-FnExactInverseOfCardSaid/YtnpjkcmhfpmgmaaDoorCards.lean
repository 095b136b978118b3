/-
  DERIVED. GIVEN WITH THE SEED: THE CARDS: each row of YtnpjkcmhfpmgmaaDoorRows.lean that lists a variable, with what it lists TIED to the program's text (the seventh form; the later family's looks); each row that meets fmt, with fmt's text TOLD by the authors' own Lean function (tested against real Go, not proved from fmt's source: count such statements apart). THE CARD IS WHAT COUNTS. Prove the row's statement (the work); the ties are given (YtnpjkcmhfpmgmaaDoorTie.lean); close each card by the builder's one call (the guide's Derived/Test/ToyasCard.lean, 'card_holds'). Laid BY PROGRAM, IN A SANDBOX (cutbox-door.mjs). By AI agents, Wed Nov 11 2026. No macro, syntax, notation, axiom, sorry.
-/
import Derived.Test.YtnpjkcmhfpmgmaaDoorRows
import GoSem.ClaimSeven
namespace Go.Proofs.YtnpjkcmhfpmgmaaDoor
namespace Rows

/-- THE TIED CARD OF 'laws.FnExactAddMatrices'. -/
def fnExactAddMatricesCard : Claim7 := { stood := { row := fnExactAddMatricesRow, standIns := [], harness := (true, "1c047d04bb740ef32c4bdfdec15c21520c7ae5ee2c5df3e2dd47dbd952df101e"), looks := false }, kinds := [], alts := [], laidByText := true, laidKinds := [.data], laidTests := true, laidLooks := .later }
def FnExactAddMatricesCardSaid : Prop := Claim7.holds Tryd.pinned (.plain (OpenSpec.ofChange fnExactAddMatricesSpec)) fnExactAddMatricesCard

/-- THE TIED CARD OF 'laws.FnExactMulMatrices'. -/
def fnExactMulMatricesCard : Claim7 := { stood := { row := fnExactMulMatricesRow, standIns := [], harness := (true, "1c047d04bb740ef32c4bdfdec15c21520c7ae5ee2c5df3e2dd47dbd952df101e"), looks := false }, kinds := [], alts := [], laidByText := true, laidKinds := [.data], laidTests := true, laidLooks := .later }
def FnExactMulMatricesCardSaid : Prop := Claim7.holds Tryd.pinned (.plain (OpenSpec.ofChange fnExactMulMatricesSpec)) fnExactMulMatricesCard

/-- THE TIED CARD OF 'laws.FnExactMatrixPower'. -/
def fnExactMatrixPowerCard : Claim7 := { stood := { row := fnExactMatrixPowerRow, standIns := [], harness := (true, "1c047d04bb740ef32c4bdfdec15c21520c7ae5ee2c5df3e2dd47dbd952df101e"), looks := false }, kinds := [], alts := [], laidByText := true, laidKinds := [.data], laidTests := true, laidLooks := .later }
def FnExactMatrixPowerCardSaid : Prop := Claim7.holds Tryd.pinned (.plain (OpenSpec.ofChange fnExactMatrixPowerSpec)) fnExactMatrixPowerCard

/-- THE TIED CARD OF 'laws.FnExactMatrixRelation'. -/
def fnExactMatrixRelationCard : Claim7 := { stood := { row := fnExactMatrixRelationRow, standIns := [], harness := (true, "1c047d04bb740ef32c4bdfdec15c21520c7ae5ee2c5df3e2dd47dbd952df101e"), looks := false }, kinds := [], alts := [], laidByText := true, laidKinds := [.data], laidTests := true, laidLooks := .later }
def FnExactMatrixRelationCardSaid : Prop := Claim7.holds Tryd.pinned (.plain (OpenSpec.ofChange fnExactMatrixRelationSpec)) fnExactMatrixRelationCard

/-- THE TIED CARD OF 'laws.FnExactDeterminantOf'. -/
def fnExactDeterminantOfCard : Claim7 := { stood := { row := fnExactDeterminantOfRow, standIns := [], harness := (true, "1c047d04bb740ef32c4bdfdec15c21520c7ae5ee2c5df3e2dd47dbd952df101e"), looks := false }, kinds := [], alts := [], laidByText := true, laidKinds := [.data], laidTests := true, laidLooks := .later }
def FnExactDeterminantOfCardSaid : Prop := Claim7.holds Tryd.pinned (.plain (OpenSpec.ofChange fnExactDeterminantOfSpec)) fnExactDeterminantOfCard

/-- THE TIED CARD OF 'laws.FnExactRowReduce'. -/
def fnExactRowReduceCard : Claim7 := { stood := { row := fnExactRowReduceRow, standIns := [], harness := (true, "1c047d04bb740ef32c4bdfdec15c21520c7ae5ee2c5df3e2dd47dbd952df101e"), looks := false }, kinds := [], alts := [], laidByText := true, laidKinds := [.data], laidTests := true, laidLooks := .later }
def FnExactRowReduceCardSaid : Prop := Claim7.holds Tryd.pinned (.plain (OpenSpec.ofChange fnExactRowReduceSpec)) fnExactRowReduceCard

/-- THE TIED CARD OF 'laws.FnExactInverseOf'. -/
def fnExactInverseOfCard : Claim7 := { stood := { row := fnExactInverseOfRow, standIns := [], harness := (true, "1c047d04bb740ef32c4bdfdec15c21520c7ae5ee2c5df3e2dd47dbd952df101e"), looks := false }, kinds := [], alts := [], laidByText := true, laidKinds := [.data], laidTests := true, laidLooks := .later }
def FnExactInverseOfCardSaid : Prop := Claim7.holds Tryd.pinned (.plain (OpenSpec.ofChange fnExactInverseOfSpec)) fnExactInverseOfCard

/-- THE TIED CARD OF 'laws.FnExactRankOf'. -/
def fnExactRankOfCard : Claim7 := { stood := { row := fnExactRankOfRow, standIns := [], harness := (true, "1c047d04bb740ef32c4bdfdec15c21520c7ae5ee2c5df3e2dd47dbd952df101e"), looks := false }, kinds := [], alts := [], laidByText := true, laidKinds := [.data], laidTests := true, laidLooks := .later }
def FnExactRankOfCardSaid : Prop := Claim7.holds Tryd.pinned (.plain (OpenSpec.ofChange fnExactRankOfSpec)) fnExactRankOfCard

/-- THE TIED CARD OF 'laws.FnExactSpanOf'. -/
def fnExactSpanOfCard : Claim7 := { stood := { row := fnExactSpanOfRow, standIns := [], harness := (true, "1c047d04bb740ef32c4bdfdec15c21520c7ae5ee2c5df3e2dd47dbd952df101e"), looks := false }, kinds := [], alts := [], laidByText := true, laidKinds := [.data], laidTests := true, laidLooks := .later }
def FnExactSpanOfCardSaid : Prop := Claim7.holds Tryd.pinned (.plain (OpenSpec.ofChange fnExactSpanOfSpec)) fnExactSpanOfCard

/-- THE SECOND FORM's CARD OF 'laws.FnExactAddMatrices'. -/
def fnExactAddMatricesUptoCard : Claim7 := { stood := { row := fnExactAddMatricesUptoRow, standIns := [], harness := (true, "1c047d04bb740ef32c4bdfdec15c21520c7ae5ee2c5df3e2dd47dbd952df101e"), looks := false }, kinds := [], alts := [], laidByText := true, laidKinds := [.data], laidTests := true, laidLooks := .later }
def FnExactAddMatricesUptoCardSaid : Prop := Claim7.holds Tryd.pinned (.plain (OpenSpec.upto fnExactAddMatricesSpec)) fnExactAddMatricesUptoCard

/-- THE SECOND FORM's CARD OF 'laws.FnExactMulMatrices'. -/
def fnExactMulMatricesUptoCard : Claim7 := { stood := { row := fnExactMulMatricesUptoRow, standIns := [], harness := (true, "1c047d04bb740ef32c4bdfdec15c21520c7ae5ee2c5df3e2dd47dbd952df101e"), looks := false }, kinds := [], alts := [], laidByText := true, laidKinds := [.data], laidTests := true, laidLooks := .later }
def FnExactMulMatricesUptoCardSaid : Prop := Claim7.holds Tryd.pinned (.plain (OpenSpec.upto fnExactMulMatricesSpec)) fnExactMulMatricesUptoCard

/-- THE SECOND FORM's CARD OF 'laws.FnExactMatrixPower'. -/
def fnExactMatrixPowerUptoCard : Claim7 := { stood := { row := fnExactMatrixPowerUptoRow, standIns := [], harness := (true, "1c047d04bb740ef32c4bdfdec15c21520c7ae5ee2c5df3e2dd47dbd952df101e"), looks := false }, kinds := [], alts := [], laidByText := true, laidKinds := [.data], laidTests := true, laidLooks := .later }
def FnExactMatrixPowerUptoCardSaid : Prop := Claim7.holds Tryd.pinned (.plain (OpenSpec.upto fnExactMatrixPowerSpec)) fnExactMatrixPowerUptoCard

/-- THE SECOND FORM's CARD OF 'laws.FnExactMatrixRelation'. -/
def fnExactMatrixRelationUptoCard : Claim7 := { stood := { row := fnExactMatrixRelationUptoRow, standIns := [], harness := (true, "1c047d04bb740ef32c4bdfdec15c21520c7ae5ee2c5df3e2dd47dbd952df101e"), looks := false }, kinds := [], alts := [], laidByText := true, laidKinds := [.data], laidTests := true, laidLooks := .later }
def FnExactMatrixRelationUptoCardSaid : Prop := Claim7.holds Tryd.pinned (.plain (OpenSpec.upto fnExactMatrixRelationSpec)) fnExactMatrixRelationUptoCard

/-- THE SECOND FORM's CARD OF 'laws.FnExactDeterminantOf'. -/
def fnExactDeterminantOfUptoCard : Claim7 := { stood := { row := fnExactDeterminantOfUptoRow, standIns := [], harness := (true, "1c047d04bb740ef32c4bdfdec15c21520c7ae5ee2c5df3e2dd47dbd952df101e"), looks := false }, kinds := [], alts := [], laidByText := true, laidKinds := [.data], laidTests := true, laidLooks := .later }
def FnExactDeterminantOfUptoCardSaid : Prop := Claim7.holds Tryd.pinned (.plain (OpenSpec.upto fnExactDeterminantOfSpec)) fnExactDeterminantOfUptoCard

/-- THE SECOND FORM's CARD OF 'laws.FnExactRowReduce'. -/
def fnExactRowReduceUptoCard : Claim7 := { stood := { row := fnExactRowReduceUptoRow, standIns := [], harness := (true, "1c047d04bb740ef32c4bdfdec15c21520c7ae5ee2c5df3e2dd47dbd952df101e"), looks := false }, kinds := [], alts := [], laidByText := true, laidKinds := [.data], laidTests := true, laidLooks := .later }
def FnExactRowReduceUptoCardSaid : Prop := Claim7.holds Tryd.pinned (.plain (OpenSpec.upto fnExactRowReduceSpec)) fnExactRowReduceUptoCard

/-- THE SECOND FORM's CARD OF 'laws.FnExactInverseOf'. -/
def fnExactInverseOfUptoCard : Claim7 := { stood := { row := fnExactInverseOfUptoRow, standIns := [], harness := (true, "1c047d04bb740ef32c4bdfdec15c21520c7ae5ee2c5df3e2dd47dbd952df101e"), looks := false }, kinds := [], alts := [], laidByText := true, laidKinds := [.data], laidTests := true, laidLooks := .later }
def FnExactInverseOfUptoCardSaid : Prop := Claim7.holds Tryd.pinned (.plain (OpenSpec.upto fnExactInverseOfSpec)) fnExactInverseOfUptoCard

/-- THE SECOND FORM's CARD OF 'laws.FnExactRankOf'. -/
def fnExactRankOfUptoCard : Claim7 := { stood := { row := fnExactRankOfUptoRow, standIns := [], harness := (true, "1c047d04bb740ef32c4bdfdec15c21520c7ae5ee2c5df3e2dd47dbd952df101e"), looks := false }, kinds := [], alts := [], laidByText := true, laidKinds := [.data], laidTests := true, laidLooks := .later }
def FnExactRankOfUptoCardSaid : Prop := Claim7.holds Tryd.pinned (.plain (OpenSpec.upto fnExactRankOfSpec)) fnExactRankOfUptoCard

/-- THE SECOND FORM's CARD OF 'laws.FnExactSpanOf'. -/
def fnExactSpanOfUptoCard : Claim7 := { stood := { row := fnExactSpanOfUptoRow, standIns := [], harness := (true, "1c047d04bb740ef32c4bdfdec15c21520c7ae5ee2c5df3e2dd47dbd952df101e"), looks := false }, kinds := [], alts := [], laidByText := true, laidKinds := [.data], laidTests := true, laidLooks := .later }
def FnExactSpanOfUptoCardSaid : Prop := Claim7.holds Tryd.pinned (.plain (OpenSpec.upto fnExactSpanOfSpec)) fnExactSpanOfUptoCard
end Rows
end Go.Proofs.YtnpjkcmhfpmgmaaDoor
