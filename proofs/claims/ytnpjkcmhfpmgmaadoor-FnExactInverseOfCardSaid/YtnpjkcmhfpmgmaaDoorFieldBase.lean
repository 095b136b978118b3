/- What the walks of the field chapter share. -/
import Derived.Test.YtnpjkcmhfpmgmaaDoorFieldPlain
import Derived.Test.YtnpjkcmhfpmgmaaDoorBase
import Derived.Test.YtnpjkcmhfpmgmaaDoorRows
import Derived.WalkKit
import Derived.WalkSpells
import Derived.WalkLawsBesides
import Derived.Lib.Hide
namespace Go.Proofs.YtnpjkcmhfpmgmaaDoor
open Go.RowKit
namespace Fld

theorem ret_bool {a b : Bool} (h : a = b) : Ending.returned (.bool a) = .returned (.bool b) := by rw [h]
theorem ret_int {k : IntKind} {a b : Int} (h : a = b) : Ending.returned (.int k a) = .returned (.int k b) := by rw [h]

theorem mul_bounds {p a b : Int} (hp' : p ≤ 97) (ha : 0 ≤ a) (ha' : a < p) (hb : 0 ≤ b) (hb' : b < p) : 0 ≤ a * b ∧ a * b ≤ 10000 := by
  refine ⟨Int.mul_nonneg ha hb, ?_⟩
  have : a * b ≤ 96 * 96 := Int.mul_le_mul (by omega) (by omega) hb (by omega)
  omega


theorem tab_alloc {w : World} (h : Tab w) (o : Obj) : Tab (w.alloc o) := h.below (Nat.lt_of_lt_of_le h.size (Nat.le_refl _)) ((Below.refl _ _).alloc (Nat.le_refl _) o)

end Fld
end Go.Proofs.YtnpjkcmhfpmgmaaDoor
