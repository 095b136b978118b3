/- What the laws' walks over terms and libraries share. -/
import Derived.Test.YtoegbphkheohoaaMemB
import Derived.WalkSpells
namespace Go.Proofs.Ytoegbphkheohoaa
open Go.RowKit
namespace Ints
theorem below_drewB {c W : World} (h : Below c.heap.size c W) : Below c.heap.size c W.drew := h.drew
theorem below_le {c W : World} (h : Below c.heap.size c W) : c.heap.size ≤ W.heap.size := h.size
theorem big_of {n : Nat} (h : n ≤ 1048576) : n ≤ 10000000000000 := by omega
theorem szN_cases (n : Nat) (left : Int) : (szN n left = -1) ∨ ((n : Int) ≤ left ∧ szN n left = left - n) := by
  unfold szN
  by_cases h : (n : Int) ≤ left
  · exact Or.inr ⟨h, if_pos h⟩
  · exact Or.inl (if_neg h)
end Ints
end Go.Proofs.Ytoegbphkheohoaa
