/- A fact of the whole program, for every row of this seat: what is lifted. -/
import Derived.Test.YtlfcmlbffpmhkaaDoorCards
import Derived.WalkKit
import Derived.JoinedCond
namespace Go.Proofs.YtlfcmlbffpmhkaaDoor
theorem seatLifts : Tryd.pinned.checked.prog.liftsFinal = Rows.fnExactPrintFullRow.lifted := by kernel_rfl
end Go.Proofs.YtlfcmlbffpmhkaaDoor
