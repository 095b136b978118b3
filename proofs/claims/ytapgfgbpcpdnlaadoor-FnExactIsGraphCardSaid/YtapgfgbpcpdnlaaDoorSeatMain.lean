/- A fact of the whole program, for every card of this seat: what its main is. -/
import Derived.Test.YtapgfgbpcpdnlaaDoorCards
import Derived.WalkKit
import Derived.JoinedCond
namespace Go.Proofs.YtapgfgbpcpdnlaaDoor
theorem seatMain : Tryd.pinned.checked.prog.mainIs = some (Rows.fnExactIsGraphCard.stood.harness.1, Rows.fnExactIsGraphCard.stood.harness.2.toList) := by kernel_rfl
end Go.Proofs.YtapgfgbpcpdnlaaDoor
