/- IsMatrix, both: the wrappers; what a struct of two cells in a block of the call's own reads as. -/
import Derived.Test.YtapgfgbpcpdnlaaRowsB
import Derived.Test.YtapgfgbpcpdnlaaPred
namespace Go.Proofs.Ytapgfgbpcpdnlaa
open Go.RowKit
namespace Ints
open Fld (goodB inB inR tab_alloc)

theorem szN_cases (n : Nat) (left : Int) : (szN n left = -1) ∨ ((n : Int) ≤ left ∧ szN n left = left - n) := by
  unfold szN
  by_cases h : (n : Int) ≤ left
  · exact Or.inr ⟨h, if_pos h⟩
  · exact Or.inl (if_neg h)

end Ints
end Go.Proofs.Ytapgfgbpcpdnlaa
