/- A fact of the whole program, for every row of this seat: how it was made. -/
import Derived.Test.YtimjlcnljefbbaaDoorCards
import Derived.WalkKit
import Derived.JoinedCond
namespace Go.Proofs.YtimjlcnljefbbaaDoor
theorem seatMake : Tryd.pinned.checked.prog.make = some Rows.fnExactMatrixRelationRow.make := by kernel_rfl
end Go.Proofs.YtimjlcnljefbbaaDoor
