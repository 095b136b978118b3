/- A fact of the whole program, for every row of this seat: what may be entered. -/
import Derived.Test.YtlfcmlbffpmhkaaDoorCards
import Derived.WalkKit
import Derived.JoinedCond
namespace Go.Proofs.YtlfcmlbffpmhkaaDoor
theorem seatEnter : Tryd.pinned.checked.prog.mayEnter = true := by kernel_rfl
end Go.Proofs.YtlfcmlbffpmhkaaDoor
