/- The law FnExactIsSpace: its said form. -/
import Derived.Test.YtkpheigoegehoaaDoorRowIsSpace
import Derived.Test.YtkpheigoegehoaaDoorSeatEnter
import Derived.Test.YtkpheigoegehoaaDoorSeatLifts
import Derived.Test.YtkpheigoegehoaaDoorSeatMake
import Derived.Test.YtkpheigoegehoaaDoorTie
namespace Go.Proofs.YtkpheigoegehoaaDoor.fnExactIsSpace
open Go.ChangeShapes Go.WideShapes Go.ChangeAt Go.RowKit
set_option linter.unusedVariables false


theorem closed : joinedFacts Tryd.pinned.checked.prog 7 Tryd.f7 (OpenSpec.ofChange Rows.fnExactIsSpaceSpec).bare Rows.fnExactIsSpaceRow = true := by
  unfold joinedFacts
  rw [seatEnter, seatLifts, seatMake]
  kernel_rfl

theorem said : Rows.FnExactIsSpaceSaid :=
  OpenClaim.holds_of_cond 7 Tryd.f7 rfl rfl rfl rfl rfl rfl rfl ⟨rfl, rfl, rfl, rfl, rfl⟩ rfl rfl rfl rfl rfl (by kernel_rfl) Tryd.func7 closed
    (of_decide_eq_true (by kernel_rfl)) (by unfold Func.isWrapper; first | (rw [if_pos (by decide +kernel)]; kernel_rfl) | (rw [if_neg (by decide +kernel)]; exact ⟨rfl, rfl⟩))
    (fun os started H enc _ F => by rw [OpenClaim.pre_eq_preRow]; exact lifted os started H enc F)


end Go.Proofs.YtkpheigoegehoaaDoor.fnExactIsSpace
