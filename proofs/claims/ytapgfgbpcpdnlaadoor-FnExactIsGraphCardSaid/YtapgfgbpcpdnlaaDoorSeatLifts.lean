/- A fact of the whole program, for every row of this seat: what is lifted. -/
import Derived.Test.YtapgfgbpcpdnlaaDoorCards
import Derived.WalkKit
import Derived.JoinedCond
namespace Go.Proofs.YtapgfgbpcpdnlaaDoor
theorem seatLifts : Tryd.pinned.checked.prog.liftsFinal = Rows.fnExactIsGraphRow.lifted := by kernel_rfl
end Go.Proofs.YtapgfgbpcpdnlaaDoor
