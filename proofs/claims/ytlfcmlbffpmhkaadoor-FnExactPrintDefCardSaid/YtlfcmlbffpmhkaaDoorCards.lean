/-
  DERIVED. GIVEN WITH THE SEED: THE CARDS: each row of YtlfcmlbffpmhkaaDoorRows.lean that lists a variable, with what it lists TIED to the program's text (the seventh form; the later family's looks); each row that meets fmt, with fmt's text TOLD by the authors' own Lean function (tested against real Go, not proved from fmt's source: count such statements apart). THE CARD IS WHAT COUNTS. Prove the row's statement (the work); the ties are given (YtlfcmlbffpmhkaaDoorTie.lean); close each card by the builder's one call (the guide's Derived/Test/ToyasCard.lean, 'card_holds'). Laid BY PROGRAM, IN A SANDBOX (cutbox-door.mjs). By AI agents, Wed Nov 11 2026. No macro, syntax, notation, axiom, sorry.
-/
import Derived.Test.YtlfcmlbffpmhkaaDoorRows
import GoSem.ClaimSeven
namespace Go.Proofs.YtlfcmlbffpmhkaaDoor
namespace Rows

/-- THE TIED CARD OF 'laws.FnExactPrintFull'. -/
def fnExactPrintFullCard : Claim7 := { stood := { row := fnExactPrintFullRow, standIns := [], harness := (true, "09f6fe7ce061522d7c4fe99d5261aab59af80f00f7604a51d0bea85276c0de1e"), looks := true }, kinds := [], alts := [], laidByText := true, laidKinds := [.data, .data, .data], laidTests := true, laidLooks := .later }
def FnExactPrintFullCardSaid : Prop := Claim7.holds Tryd.pinned (.plain (OpenSpec.ofChange fnExactPrintFullSpec)) fnExactPrintFullCard

/-- THE TIED CARD OF 'laws.FnExactPrintTerm'. -/
def fnExactPrintTermCard : Claim7 := { stood := { row := fnExactPrintTermRow, standIns := [], harness := (true, "09f6fe7ce061522d7c4fe99d5261aab59af80f00f7604a51d0bea85276c0de1e"), looks := true }, kinds := [], alts := [], laidByText := true, laidKinds := [.data, .data, .data], laidTests := true, laidLooks := .later }
def FnExactPrintTermCardSaid : Prop := Claim7.holds Tryd.pinned (.plain (OpenSpec.ofChange fnExactPrintTermSpec)) fnExactPrintTermCard

/-- THE TIED CARD OF 'laws.FnExactPrintDef'. -/
def fnExactPrintDefCard : Claim7 := { stood := { row := fnExactPrintDefRow, standIns := [], harness := (true, "09f6fe7ce061522d7c4fe99d5261aab59af80f00f7604a51d0bea85276c0de1e"), looks := true }, kinds := [], alts := [], laidByText := true, laidKinds := [.data, .data, .data], laidTests := true, laidLooks := .later }
def FnExactPrintDefCardSaid : Prop := Claim7.holds Tryd.pinned (.plain (OpenSpec.ofChange fnExactPrintDefSpec)) fnExactPrintDefCard

/-- THE TIED CARD OF 'laws.FnExactPrintLibrary'. -/
def fnExactPrintLibraryCard : Claim7 := { stood := { row := fnExactPrintLibraryRow, standIns := [], harness := (true, "09f6fe7ce061522d7c4fe99d5261aab59af80f00f7604a51d0bea85276c0de1e"), looks := true }, kinds := [], alts := [], laidByText := true, laidKinds := [.data, .data, .data], laidTests := true, laidLooks := .later }
def FnExactPrintLibraryCardSaid : Prop := Claim7.holds Tryd.pinned (.plain (OpenSpec.ofChange fnExactPrintLibrarySpec)) fnExactPrintLibraryCard

/-- THE SECOND FORM's CARD OF 'laws.FnExactPrintFull'. -/
def fnExactPrintFullUptoCard : Claim7 := { stood := { row := fnExactPrintFullUptoRow, standIns := [], harness := (true, "09f6fe7ce061522d7c4fe99d5261aab59af80f00f7604a51d0bea85276c0de1e"), looks := true }, kinds := [], alts := [], laidByText := true, laidKinds := [.data, .data, .data], laidTests := true, laidLooks := .later }
def FnExactPrintFullUptoCardSaid : Prop := Claim7.holds Tryd.pinned (.plain (OpenSpec.upto fnExactPrintFullSpec)) fnExactPrintFullUptoCard

/-- THE SECOND FORM's CARD OF 'laws.FnExactPrintTerm'. -/
def fnExactPrintTermUptoCard : Claim7 := { stood := { row := fnExactPrintTermUptoRow, standIns := [], harness := (true, "09f6fe7ce061522d7c4fe99d5261aab59af80f00f7604a51d0bea85276c0de1e"), looks := true }, kinds := [], alts := [], laidByText := true, laidKinds := [.data, .data, .data], laidTests := true, laidLooks := .later }
def FnExactPrintTermUptoCardSaid : Prop := Claim7.holds Tryd.pinned (.plain (OpenSpec.upto fnExactPrintTermSpec)) fnExactPrintTermUptoCard

/-- THE SECOND FORM's CARD OF 'laws.FnExactPrintDef'. -/
def fnExactPrintDefUptoCard : Claim7 := { stood := { row := fnExactPrintDefUptoRow, standIns := [], harness := (true, "09f6fe7ce061522d7c4fe99d5261aab59af80f00f7604a51d0bea85276c0de1e"), looks := true }, kinds := [], alts := [], laidByText := true, laidKinds := [.data, .data, .data], laidTests := true, laidLooks := .later }
def FnExactPrintDefUptoCardSaid : Prop := Claim7.holds Tryd.pinned (.plain (OpenSpec.upto fnExactPrintDefSpec)) fnExactPrintDefUptoCard

/-- THE SECOND FORM's CARD OF 'laws.FnExactPrintLibrary'. -/
def fnExactPrintLibraryUptoCard : Claim7 := { stood := { row := fnExactPrintLibraryUptoRow, standIns := [], harness := (true, "09f6fe7ce061522d7c4fe99d5261aab59af80f00f7604a51d0bea85276c0de1e"), looks := true }, kinds := [], alts := [], laidByText := true, laidKinds := [.data, .data, .data], laidTests := true, laidLooks := .later }
def FnExactPrintLibraryUptoCardSaid : Prop := Claim7.holds Tryd.pinned (.plain (OpenSpec.upto fnExactPrintLibrarySpec)) fnExactPrintLibraryUptoCard
end Rows
end Go.Proofs.YtlfcmlbffpmhkaaDoor
