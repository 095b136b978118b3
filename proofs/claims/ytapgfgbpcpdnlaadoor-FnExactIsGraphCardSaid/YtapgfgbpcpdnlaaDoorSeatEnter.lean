/- A fact of the whole program, for every row of this seat: what may be entered. -/
import Derived.Test.YtapgfgbpcpdnlaaDoorCards
import Derived.WalkKit
import Derived.JoinedCond
namespace Go.Proofs.YtapgfgbpcpdnlaaDoor
theorem seatEnter : Tryd.pinned.checked.prog.mayEnter = true := by kernel_rfl
end Go.Proofs.YtapgfgbpcpdnlaaDoor
