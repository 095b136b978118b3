/- What comes in: a list of lists of integers, of whatever make, reads as a list of lists. A matrix that comes in. A space that comes in. A relation that comes in. -/
import Derived.Test.YtoegbphkheohoaaRowsA
import Derived.ProofKit
import Derived.OpenShut
import Derived.Deep.Matrix
import Derived.Lib.SmallJoins
namespace Go.Proofs.Ytoegbphkheohoaa
open Go.RowKit Go.ChangeShapes Go.WideShapes Go.Deep
namespace Ints

theorem addr_of_cell {w : World} {a : Addr} {v : Value} (h : w.cell? a = some v) : a = ⟨a.block, a.off, none⟩ := by
  unfold World.cell? at h
  split at h
  · split at h
    · cases h
    · rename_i hs
      cases a with
      | mk b o s =>
        cases s with
        | none => rfl
        | some x => simp at hs
  · cases h
theorem add_plain (b o j : Nat) : (⟨b, o, none⟩ : Addr).add j = ⟨b, o + j, none⟩ := by unfold Addr.add; split <;> simp_all

theorem reads_of_cells {w : World} {a : Option Addr} {n cap : Nat} (xs : List Value) (hx : xs.length = n) (hc : n ≤ cap) (hm : cap ≤ maxLen)
    (h : 0 < n → ∃ a', a = some a' ∧ ∀ j, j < n → w.cell? (a'.add j) = some (xs[j]?.getD undef)) : Reads w 1 (.slice a n cap) n xs := by
  refine ⟨by omega, a, cap, rfl, hc, hm, fun hp => ?_⟩
  obtain ⟨a', rfl, hcell⟩ := h (by omega)
  have h0 := hcell 0 (by omega)
  have e0 : a'.add 0 = a' := rfl
  rw [e0] at h0
  have ha := addr_of_cell h0
  refine ⟨a'.block, a'.off, by rw [← ha], fun j hj => ?_⟩
  have h1 := hcell j (by omega)
  rw [ha, add_plain] at h1
  exact h1

theorem reads_nil (w : World) : Reads w 1 (.slice none 0 0) 0 (ofL []) := ⟨rfl, none, 0, rfl, Nat.le_refl _, Nat.zero_le _, fun h => by simp [ofL] at h⟩

end Ints
end Go.Proofs.Ytoegbphkheohoaa

namespace Go.Proofs.Ytoegbphkheohoaa
open Go.RowKit Go.ChangeShapes Go.WideShapes Go.Deep Go.Joins
namespace Ints

end Ints
end Go.Proofs.Ytoegbphkheohoaa

namespace Go.Proofs.Ytoegbphkheohoaa
open Go.RowKit Go.ChangeShapes Go.WideShapes Go.Deep Go.Joins
namespace Ints

end Ints
end Go.Proofs.Ytoegbphkheohoaa
