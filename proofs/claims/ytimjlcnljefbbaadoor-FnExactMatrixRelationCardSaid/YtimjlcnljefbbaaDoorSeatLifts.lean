/- A fact of the whole program, for every row of this seat: what is lifted. -/
import Derived.Test.YtimjlcnljefbbaaDoorCards
import Derived.WalkKit
import Derived.JoinedCond
namespace Go.Proofs.YtimjlcnljefbbaaDoor
theorem seatLifts : Tryd.pinned.checked.prog.liftsFinal = Rows.fnExactMatrixRelationRow.lifted := by kernel_rfl
end Go.Proofs.YtimjlcnljefbbaaDoor
