/- A fact of the whole program, for every card of this seat: what its main is. -/
import Derived.Test.YtlfcmlbffpmhkaaDoorCards
import Derived.WalkKit
import Derived.JoinedCond
namespace Go.Proofs.YtlfcmlbffpmhkaaDoor
theorem seatMain : Tryd.pinned.checked.prog.mainIs = some (Rows.fnExactPrintFullCard.stood.harness.1, Rows.fnExactPrintFullCard.stood.harness.2.toList) := by kernel_rfl
end Go.Proofs.YtlfcmlbffpmhkaaDoor
