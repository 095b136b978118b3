/-
  DERIVED. GIVEN WITH THE SEED: THE CARDS: each row of YtkkiconlcboehaaDoorRows.lean that lists a variable, with what it lists TIED to the program's text (the seventh form; the later family's looks); each row that meets fmt, with fmt's text TOLD by the authors' own Lean function (tested against real Go, not proved from fmt's source: count such statements apart). THE CARD IS WHAT COUNTS. Prove the row's statement (the work); the ties are given (YtkkiconlcboehaaDoorTie.lean); close each card by the builder's one call (the guide's Derived/Test/ToyasCard.lean, 'card_holds'). Laid BY PROGRAM, IN A SANDBOX (cutbox-door.mjs). By AI agents, Wed Nov 11 2026. No macro, syntax, notation, axiom, sorry.
-/
import Derived.Test.YtkkiconlcboehaaDoorRows
import GoSem.ClaimSeven
namespace Go.Proofs.YtkkiconlcboehaaDoor
namespace Rows

/-- THE TIED CARD OF 'laws.FnExactIsField'. -/
def fnExactIsFieldCard : Claim7 := { stood := { row := fnExactIsFieldRow, standIns := [], harness := (true, "b1339292839a6899d6c7dfb4fe279a638e0fa39718cdd7c6a4aa4390f99175fd"), looks := false }, kinds := [], alts := [], laidByText := true, laidKinds := [.data], laidTests := true, laidLooks := .later }
def FnExactIsFieldCardSaid : Prop := Claim7.holds Tryd.pinned (.plain (OpenSpec.ofChange fnExactIsFieldSpec)) fnExactIsFieldCard

/-- THE TIED CARD OF 'laws.FnExactFieldAdd'. -/
def fnExactFieldAddCard : Claim7 := { stood := { row := fnExactFieldAddRow, standIns := [], harness := (true, "b1339292839a6899d6c7dfb4fe279a638e0fa39718cdd7c6a4aa4390f99175fd"), looks := false }, kinds := [], alts := [], laidByText := true, laidKinds := [.data], laidTests := true, laidLooks := .later }
def FnExactFieldAddCardSaid : Prop := Claim7.holds Tryd.pinned (.plain (OpenSpec.ofChange fnExactFieldAddSpec)) fnExactFieldAddCard

/-- THE TIED CARD OF 'laws.FnExactFieldMul'. -/
def fnExactFieldMulCard : Claim7 := { stood := { row := fnExactFieldMulRow, standIns := [], harness := (true, "b1339292839a6899d6c7dfb4fe279a638e0fa39718cdd7c6a4aa4390f99175fd"), looks := false }, kinds := [], alts := [], laidByText := true, laidKinds := [.data], laidTests := true, laidLooks := .later }
def FnExactFieldMulCardSaid : Prop := Claim7.holds Tryd.pinned (.plain (OpenSpec.ofChange fnExactFieldMulSpec)) fnExactFieldMulCard

/-- THE TIED CARD OF 'laws.FnExactPrimitiveRoot'. -/
def fnExactPrimitiveRootCard : Claim7 := { stood := { row := fnExactPrimitiveRootRow, standIns := [], harness := (true, "b1339292839a6899d6c7dfb4fe279a638e0fa39718cdd7c6a4aa4390f99175fd"), looks := false }, kinds := [], alts := [], laidByText := true, laidKinds := [.data], laidTests := true, laidLooks := .later }
def FnExactPrimitiveRootCardSaid : Prop := Claim7.holds Tryd.pinned (.plain (OpenSpec.ofChange fnExactPrimitiveRootSpec)) fnExactPrimitiveRootCard

/-- THE TIED CARD OF 'laws.FnExactSquareRoot'. -/
def fnExactSquareRootCard : Claim7 := { stood := { row := fnExactSquareRootRow, standIns := [], harness := (true, "b1339292839a6899d6c7dfb4fe279a638e0fa39718cdd7c6a4aa4390f99175fd"), looks := false }, kinds := [], alts := [], laidByText := true, laidKinds := [.data], laidTests := true, laidLooks := .later }
def FnExactSquareRootCardSaid : Prop := Claim7.holds Tryd.pinned (.plain (OpenSpec.ofChange fnExactSquareRootSpec)) fnExactSquareRootCard

/-- THE TIED CARD OF 'laws.FnExactDiscreteLog'. -/
def fnExactDiscreteLogCard : Claim7 := { stood := { row := fnExactDiscreteLogRow, standIns := [], harness := (true, "b1339292839a6899d6c7dfb4fe279a638e0fa39718cdd7c6a4aa4390f99175fd"), looks := false }, kinds := [], alts := [], laidByText := true, laidKinds := [.data], laidTests := true, laidLooks := .later }
def FnExactDiscreteLogCardSaid : Prop := Claim7.holds Tryd.pinned (.plain (OpenSpec.ofChange fnExactDiscreteLogSpec)) fnExactDiscreteLogCard

/-- THE TIED CARD OF 'laws.FnExactElementOrder'. -/
def fnExactElementOrderCard : Claim7 := { stood := { row := fnExactElementOrderRow, standIns := [], harness := (true, "b1339292839a6899d6c7dfb4fe279a638e0fa39718cdd7c6a4aa4390f99175fd"), looks := false }, kinds := [], alts := [], laidByText := true, laidKinds := [.data], laidTests := true, laidLooks := .later }
def FnExactElementOrderCardSaid : Prop := Claim7.holds Tryd.pinned (.plain (OpenSpec.ofChange fnExactElementOrderSpec)) fnExactElementOrderCard

/-- THE TIED CARD OF 'laws.FnExactFieldInverse'. -/
def fnExactFieldInverseCard : Claim7 := { stood := { row := fnExactFieldInverseRow, standIns := [], harness := (true, "b1339292839a6899d6c7dfb4fe279a638e0fa39718cdd7c6a4aa4390f99175fd"), looks := false }, kinds := [], alts := [], laidByText := true, laidKinds := [.data], laidTests := true, laidLooks := .later }
def FnExactFieldInverseCardSaid : Prop := Claim7.holds Tryd.pinned (.plain (OpenSpec.ofChange fnExactFieldInverseSpec)) fnExactFieldInverseCard

/-- THE TIED CARD OF 'laws.FnExactFieldPower'. -/
def fnExactFieldPowerCard : Claim7 := { stood := { row := fnExactFieldPowerRow, standIns := [], harness := (true, "b1339292839a6899d6c7dfb4fe279a638e0fa39718cdd7c6a4aa4390f99175fd"), looks := false }, kinds := [], alts := [], laidByText := true, laidKinds := [.data], laidTests := true, laidLooks := .later }
def FnExactFieldPowerCardSaid : Prop := Claim7.holds Tryd.pinned (.plain (OpenSpec.ofChange fnExactFieldPowerSpec)) fnExactFieldPowerCard

/-- THE TIED CARD OF 'laws.FnExactQuadraticRoots'. -/
def fnExactQuadraticRootsCard : Claim7 := { stood := { row := fnExactQuadraticRootsRow, standIns := [], harness := (true, "b1339292839a6899d6c7dfb4fe279a638e0fa39718cdd7c6a4aa4390f99175fd"), looks := false }, kinds := [], alts := [], laidByText := true, laidKinds := [.data], laidTests := true, laidLooks := .later }
def FnExactQuadraticRootsCardSaid : Prop := Claim7.holds Tryd.pinned (.plain (OpenSpec.ofChange fnExactQuadraticRootsSpec)) fnExactQuadraticRootsCard

/-- THE SECOND FORM's CARD OF 'laws.FnExactIsField'. -/
def fnExactIsFieldUptoCard : Claim7 := { stood := { row := fnExactIsFieldUptoRow, standIns := [], harness := (true, "b1339292839a6899d6c7dfb4fe279a638e0fa39718cdd7c6a4aa4390f99175fd"), looks := false }, kinds := [], alts := [], laidByText := true, laidKinds := [.data], laidTests := true, laidLooks := .later }
def FnExactIsFieldUptoCardSaid : Prop := Claim7.holds Tryd.pinned (.plain (OpenSpec.upto fnExactIsFieldSpec)) fnExactIsFieldUptoCard

/-- THE SECOND FORM's CARD OF 'laws.FnExactFieldAdd'. -/
def fnExactFieldAddUptoCard : Claim7 := { stood := { row := fnExactFieldAddUptoRow, standIns := [], harness := (true, "b1339292839a6899d6c7dfb4fe279a638e0fa39718cdd7c6a4aa4390f99175fd"), looks := false }, kinds := [], alts := [], laidByText := true, laidKinds := [.data], laidTests := true, laidLooks := .later }
def FnExactFieldAddUptoCardSaid : Prop := Claim7.holds Tryd.pinned (.plain (OpenSpec.upto fnExactFieldAddSpec)) fnExactFieldAddUptoCard

/-- THE SECOND FORM's CARD OF 'laws.FnExactFieldMul'. -/
def fnExactFieldMulUptoCard : Claim7 := { stood := { row := fnExactFieldMulUptoRow, standIns := [], harness := (true, "b1339292839a6899d6c7dfb4fe279a638e0fa39718cdd7c6a4aa4390f99175fd"), looks := false }, kinds := [], alts := [], laidByText := true, laidKinds := [.data], laidTests := true, laidLooks := .later }
def FnExactFieldMulUptoCardSaid : Prop := Claim7.holds Tryd.pinned (.plain (OpenSpec.upto fnExactFieldMulSpec)) fnExactFieldMulUptoCard

/-- THE SECOND FORM's CARD OF 'laws.FnExactPrimitiveRoot'. -/
def fnExactPrimitiveRootUptoCard : Claim7 := { stood := { row := fnExactPrimitiveRootUptoRow, standIns := [], harness := (true, "b1339292839a6899d6c7dfb4fe279a638e0fa39718cdd7c6a4aa4390f99175fd"), looks := false }, kinds := [], alts := [], laidByText := true, laidKinds := [.data], laidTests := true, laidLooks := .later }
def FnExactPrimitiveRootUptoCardSaid : Prop := Claim7.holds Tryd.pinned (.plain (OpenSpec.upto fnExactPrimitiveRootSpec)) fnExactPrimitiveRootUptoCard

/-- THE SECOND FORM's CARD OF 'laws.FnExactSquareRoot'. -/
def fnExactSquareRootUptoCard : Claim7 := { stood := { row := fnExactSquareRootUptoRow, standIns := [], harness := (true, "b1339292839a6899d6c7dfb4fe279a638e0fa39718cdd7c6a4aa4390f99175fd"), looks := false }, kinds := [], alts := [], laidByText := true, laidKinds := [.data], laidTests := true, laidLooks := .later }
def FnExactSquareRootUptoCardSaid : Prop := Claim7.holds Tryd.pinned (.plain (OpenSpec.upto fnExactSquareRootSpec)) fnExactSquareRootUptoCard

/-- THE SECOND FORM's CARD OF 'laws.FnExactDiscreteLog'. -/
def fnExactDiscreteLogUptoCard : Claim7 := { stood := { row := fnExactDiscreteLogUptoRow, standIns := [], harness := (true, "b1339292839a6899d6c7dfb4fe279a638e0fa39718cdd7c6a4aa4390f99175fd"), looks := false }, kinds := [], alts := [], laidByText := true, laidKinds := [.data], laidTests := true, laidLooks := .later }
def FnExactDiscreteLogUptoCardSaid : Prop := Claim7.holds Tryd.pinned (.plain (OpenSpec.upto fnExactDiscreteLogSpec)) fnExactDiscreteLogUptoCard

/-- THE SECOND FORM's CARD OF 'laws.FnExactElementOrder'. -/
def fnExactElementOrderUptoCard : Claim7 := { stood := { row := fnExactElementOrderUptoRow, standIns := [], harness := (true, "b1339292839a6899d6c7dfb4fe279a638e0fa39718cdd7c6a4aa4390f99175fd"), looks := false }, kinds := [], alts := [], laidByText := true, laidKinds := [.data], laidTests := true, laidLooks := .later }
def FnExactElementOrderUptoCardSaid : Prop := Claim7.holds Tryd.pinned (.plain (OpenSpec.upto fnExactElementOrderSpec)) fnExactElementOrderUptoCard

/-- THE SECOND FORM's CARD OF 'laws.FnExactFieldInverse'. -/
def fnExactFieldInverseUptoCard : Claim7 := { stood := { row := fnExactFieldInverseUptoRow, standIns := [], harness := (true, "b1339292839a6899d6c7dfb4fe279a638e0fa39718cdd7c6a4aa4390f99175fd"), looks := false }, kinds := [], alts := [], laidByText := true, laidKinds := [.data], laidTests := true, laidLooks := .later }
def FnExactFieldInverseUptoCardSaid : Prop := Claim7.holds Tryd.pinned (.plain (OpenSpec.upto fnExactFieldInverseSpec)) fnExactFieldInverseUptoCard

/-- THE SECOND FORM's CARD OF 'laws.FnExactFieldPower'. -/
def fnExactFieldPowerUptoCard : Claim7 := { stood := { row := fnExactFieldPowerUptoRow, standIns := [], harness := (true, "b1339292839a6899d6c7dfb4fe279a638e0fa39718cdd7c6a4aa4390f99175fd"), looks := false }, kinds := [], alts := [], laidByText := true, laidKinds := [.data], laidTests := true, laidLooks := .later }
def FnExactFieldPowerUptoCardSaid : Prop := Claim7.holds Tryd.pinned (.plain (OpenSpec.upto fnExactFieldPowerSpec)) fnExactFieldPowerUptoCard

/-- THE SECOND FORM's CARD OF 'laws.FnExactQuadraticRoots'. -/
def fnExactQuadraticRootsUptoCard : Claim7 := { stood := { row := fnExactQuadraticRootsUptoRow, standIns := [], harness := (true, "b1339292839a6899d6c7dfb4fe279a638e0fa39718cdd7c6a4aa4390f99175fd"), looks := false }, kinds := [], alts := [], laidByText := true, laidKinds := [.data], laidTests := true, laidLooks := .later }
def FnExactQuadraticRootsUptoCardSaid : Prop := Claim7.holds Tryd.pinned (.plain (OpenSpec.upto fnExactQuadraticRootsSpec)) fnExactQuadraticRootsUptoCard
end Rows
end Go.Proofs.YtkkiconlcboehaaDoor
