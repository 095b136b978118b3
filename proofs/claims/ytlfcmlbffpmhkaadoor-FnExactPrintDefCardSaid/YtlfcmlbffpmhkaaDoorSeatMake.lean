/- A fact of the whole program, for every row of this seat: how it was made. -/
import Derived.Test.YtlfcmlbffpmhkaaDoorCards
import Derived.WalkKit
import Derived.JoinedCond
namespace Go.Proofs.YtlfcmlbffpmhkaaDoor
theorem seatMake : Tryd.pinned.checked.prog.make = some Rows.fnExactPrintFullRow.make := by kernel_rfl
end Go.Proofs.YtlfcmlbffpmhkaaDoor
