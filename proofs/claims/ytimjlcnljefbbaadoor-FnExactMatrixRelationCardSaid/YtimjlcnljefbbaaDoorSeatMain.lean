/- A fact of the whole program, for every card of this seat: what its main is. -/
import Derived.Test.YtimjlcnljefbbaaDoorCards
import Derived.WalkKit
import Derived.JoinedCond
namespace Go.Proofs.YtimjlcnljefbbaaDoor
theorem seatMain : Tryd.pinned.checked.prog.mainIs = some (Rows.fnExactMatrixRelationCard.stood.harness.1, Rows.fnExactMatrixRelationCard.stood.harness.2.toList) := by kernel_rfl
end Go.Proofs.YtimjlcnljefbbaaDoor
