/- The law FnExactPreimageOf: its said form. -/
import Derived.Test.YtkpheigoegehoaaDoorRowPreimageOf
import Derived.Test.YtkpheigoegehoaaDoorSeatEnter
import Derived.Test.YtkpheigoegehoaaDoorSeatLifts
import Derived.Test.YtkpheigoegehoaaDoorSeatMake
import Derived.Test.YtkpheigoegehoaaDoorTie
namespace Go.Proofs.YtkpheigoegehoaaDoor.fnExactPreimageOf
open Go.ChangeShapes Go.WideShapes Go.ChangeAt Go.RowKit
set_option linter.unusedVariables false


theorem closed : joinedFacts Tryd.pinned.checked.prog 17 Tryd.f17 (OpenSpec.ofChange Rows.fnExactPreimageOfSpec).bare Rows.fnExactPreimageOfRow = true := by
  unfold joinedFacts
  rw [seatEnter, seatLifts, seatMake]
  kernel_rfl

theorem said : Rows.FnExactPreimageOfSaid :=
  OpenClaim.holds_of_cond 17 Tryd.f17 rfl rfl rfl rfl rfl rfl rfl ⟨rfl, rfl, rfl, rfl, rfl⟩ rfl rfl rfl rfl rfl (by kernel_rfl) Tryd.func17 closed
    (of_decide_eq_true (by kernel_rfl)) (by unfold Func.isWrapper; first | (rw [if_pos (by decide +kernel)]; kernel_rfl) | (rw [if_neg (by decide +kernel)]; exact ⟨rfl, rfl⟩))
    (fun os started H enc _ F => by rw [OpenClaim.pre_eq_preRow]; exact lifted os started H enc F)


end Go.Proofs.YtkpheigoegehoaaDoor.fnExactPreimageOf
