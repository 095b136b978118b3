/- A fact of the whole program, for every row of this seat: how it was made. -/
import Derived.Test.YtapgfgbpcpdnlaaDoorCards
import Derived.WalkKit
import Derived.JoinedCond
namespace Go.Proofs.YtapgfgbpcpdnlaaDoor
theorem seatMake : Tryd.pinned.checked.prog.make = some Rows.fnExactIsGraphRow.make := by kernel_rfl
end Go.Proofs.YtapgfgbpcpdnlaaDoor
